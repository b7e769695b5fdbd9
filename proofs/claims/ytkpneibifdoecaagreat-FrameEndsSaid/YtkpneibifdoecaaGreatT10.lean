/- Contracts and plain laws that a statement's proof leans on (texts merged: Y1f, ESM, EvR). -/
import Derived.ProofKit
import Derived.Carry
import Derived.SizedLaws
import Derived.Test.YtkpneibifdoecaaGreatT04
import Derived.Test.YtkpneibifdoecaaGreatT05
import Derived.Test.YtkpneibifdoecaaGreatT06
import Derived.Test.YtkpneibifdoecaaGreatT08
import Derived.Test.YtkpneibifdoecaaGreatT09
set_option linter.unusedVariables false
set_option linter.unusedSimpArgs false
namespace Go.Proofs.YtkpneibifdoecaaGreat
open Go Go.Ev
set_option maxRecDepth 100000
set_option maxHeartbeats 8000000
def tbYf0 : List D := [D.fn (Fn.func 74) [D.ptr false 4 0] [], D.fn (Fn.func 75) [D.ptr false 4 0] [], D.nilf, D.nilf, D.nilf, D.nilf, D.nilf, D.nilf, D.nilf, D.nilf, D.nilf, D.nilf, D.nilf, D.nilf, D.nilf, D.nilf, D.nilf, D.nilf, D.nilf, D.nilf, D.nilf, D.nilf, D.nilf, D.nilf, D.fn (Fn.func 76) [D.ptr false 4 0] [], D.fn (Fn.func 77) [D.ptr false 4 0] [], D.fn (Fn.func 78) [D.ptr false 4 0] [], D.fn (Fn.func 79) [D.ptr false 4 0] [], D.fn (Fn.func 80) [D.ptr false 4 0] [], D.fn (Fn.func 81) [D.ptr false 4 0] [], D.fn (Fn.func 82) [D.ptr false 4 0] [], D.fn (Fn.func 83) [D.ptr false 4 0] []]
def tbYf1 : List (Int × D) := [((2 : Int), .int .i8 0), ((9 : Int), .int .i8 0), ((3 : Int), .int .i8 4), ((10 : Int), .int .i8 4), ((4 : Int), .int .i8 5), ((11 : Int), .int .i8 5), ((8 : Int), .int .i8 5), ((15 : Int), .int .i8 5), ((5 : Int), .int .i8 1), ((12 : Int), .int .i8 1), ((7 : Int), .int .i8 1), ((14 : Int), .int .i8 1), ((6 : Int), .int .i8 10), ((13 : Int), .int .i8 10), ((16 : Int), .int .i8 2), ((17 : Int), .int .i8 6), ((20 : Int), .int .i8 6), ((18 : Int), .int .i8 7), ((21 : Int), .int .i8 7), ((19 : Int), .int .i8 12), ((22 : Int), .int .i8 12), ((23 : Int), .int .i8 8)]
def SpY1f0 (k0_ : Int) : Prop := ∀ (m : MachS) (w dst src base disp imm cc ld : Int) (d0 : 0 ≤ dst) (d1 : dst ≤ 15) (s0 : 0 ≤ src) (s1 : src ≤ 15) (b0 : 0 ≤ base) (b1 : base ≤ 15) (hm : mayX k0_ w dst src base disp imm cc = true) (hw : longM w = true), Ret Tryz.prog 55 ([m.d, xD k0_ w dst src base disp imm cc, .int .u64 ld]) (.tup [(doS (m.at (u64 (m.pc + u64 (lenX k0_ w dst src base disp imm cc)))) ⟨k0_, w, dst, src, base, disp, imm, cc⟩ ld).1.d, .int .i64 0])
theorem exec_9_ok : SpY1f0 9 := by
 intro m w dst src base disp imm cc ld d0 d1 s0 s1 b0 b1 hm hw
 have c0 := @mayX_ok 9 w dst src base disp imm cc (by decide)
 rw [hm] at c0
 have c1 := @xlen_ok 9 w dst src base disp imm cc (by decide)
 have c2 := @bdo_0_ok w (rg (MachS.rl m) dst) (IntKind.wrap IntKind.u64 imm) hw
 have c3 := @fadd_ok w (rg (MachS.rl m) dst) (IntKind.wrap IntKind.u64 imm) hw
 have c4 := @writes_any_ok 9 w dst src base disp imm cc (by decide)
 exact (o55 (d := .tup [(doS (m.at (u64 (m.pc + u64 (lenX 9 w dst src base disp imm cc)))) ⟨9, w, dst, src, base, disp, imm, cc⟩ ld).1.d, .int .i64 0]) ([.ret _ _ _ c0, tF, .ret _ _ _ c1, tT, .get tbYf0 9 (.nilf) rfl, tT, .inl, .inl, .keep [(4, Ob.box (MachS.cw m (pcX m 9 w dst src base disp imm cc) (xT 9 w dst src base disp imm cc ld)))], .mget tbYf1 9 (some (.int .i8 0)) rfl, .tst _ true (in16 d0 d1), .get _ _ _ (@get_regm m dst ((fT m (pcX m 9 w dst src base disp imm cc) (xT 9 w dst src base disp imm cc ld))) d0 d1), .inl] ++ List.replicate 8 tF ++ List.replicate 9 tT ++ [.keep [(4, Ob.box (MachS.cw m (pcX m 9 w dst src base disp imm cc) (xT 9 w dst src base disp imm cc ld)))], .ret _ _ _ c2, tF, tT, .ret _ _ _ c3, .ret _ _ _ c4, tC (nt (@wr_nz 9 w dst src base disp imm cc hm d0 d1 (rfl : true = true))), .tst _ true (in16 d0 d1), .putA _ _ _ _ (@put_regm m dst (doM 0 w (rg (MachS.rl m) dst) (IntKind.wrap IntKind.u64 imm)) ([.bool true, .bool (addC w (rg (MachS.rl m) dst) (IntKind.wrap IntKind.u64 imm)), .bool (cutM (u64 (rg (MachS.rl m) dst + IntKind.wrap IntKind.u64 imm)) w == 0), .bool (negM (u64 (rg (MachS.rl m) dst + IntKind.wrap IntKind.u64 imm)) w), .bool (addO w (rg (MachS.rl m) dst) (IntKind.wrap IntKind.u64 imm)), .int .u64 (pcX m 9 w dst src base disp imm cc), .int .i8 9, .int .i8 w, .int .i8 dst, .int .i8 src, .int .i8 base, .int .i64 disp, .int .i64 imm, .int .i8 cc, .int .u64 ld]) d0 d1), tF]) (by kernel_rfl))
theorem exec_10_ok : SpY1f0 10 := by
 intro m w dst src base disp imm cc ld d0 d1 s0 s1 b0 b1 hm hw
 have c0 := @mayX_ok 10 w dst src base disp imm cc (by decide)
 rw [hm] at c0
 have c1 := @xlen_ok 10 w dst src base disp imm cc (by decide)
 have c2 := @bdo_4_ok w (rg (MachS.rl m) dst) (IntKind.wrap IntKind.u64 imm) hw
 have c3 := @fof_ok w (doM 4 w (rg (MachS.rl m) dst) (IntKind.wrap IntKind.u64 imm)) hw
 have c4 := @writes_any_ok 10 w dst src base disp imm cc (by decide)
 exact (o55 (d := .tup [(doS (m.at (u64 (m.pc + u64 (lenX 10 w dst src base disp imm cc)))) ⟨10, w, dst, src, base, disp, imm, cc⟩ ld).1.d, .int .i64 0]) ([.ret _ _ _ c0, tF, .ret _ _ _ c1, tT, .get tbYf0 10 (.nilf) rfl, tT, .inl, .inl, .keep [(4, Ob.box (MachS.cw m (pcX m 10 w dst src base disp imm cc) (xT 10 w dst src base disp imm cc ld)))], .mget tbYf1 10 (some (.int .i8 4)) rfl, .tst _ true (in16 d0 d1), .get _ _ _ (@get_regm m dst ((fT m (pcX m 10 w dst src base disp imm cc) (xT 10 w dst src base disp imm cc ld))) d0 d1), .inl] ++ List.replicate 8 tF ++ List.replicate 9 tT ++ [.keep [(4, Ob.box (MachS.cw m (pcX m 10 w dst src base disp imm cc) (xT 10 w dst src base disp imm cc ld)))], .ret _ _ _ c2, tF, tF, tF, tF, tT, tT, .ret _ _ _ c3, .ret _ _ _ c4, tC (nt (@wr_nz 10 w dst src base disp imm cc hm d0 d1 (rfl : true = true))), .tst _ true (in16 d0 d1), .putA _ _ _ _ (@put_regm m dst (doM 4 w (rg (MachS.rl m) dst) (IntKind.wrap IntKind.u64 imm)) ([.bool true, .bool false, .bool (cutM (doM 4 w (rg (MachS.rl m) dst) (IntKind.wrap IntKind.u64 imm)) w == 0), .bool (negM (doM 4 w (rg (MachS.rl m) dst) (IntKind.wrap IntKind.u64 imm)) w), .bool false, .int .u64 (pcX m 10 w dst src base disp imm cc), .int .i8 10, .int .i8 w, .int .i8 dst, .int .i8 src, .int .i8 base, .int .i64 disp, .int .i64 imm, .int .i8 cc, .int .u64 ld]) d0 d1), tF]) (by kernel_rfl))
theorem exec_11_ok : SpY1f0 11 := by
 intro m w dst src base disp imm cc ld d0 d1 s0 s1 b0 b1 hm hw
 have c0 := @mayX_ok 11 w dst src base disp imm cc (by decide)
 rw [hm] at c0
 have c1 := @xlen_ok 11 w dst src base disp imm cc (by decide)
 have c2 := @bdo_5_ok w (rg (MachS.rl m) dst) (IntKind.wrap IntKind.u64 imm) hw
 have c3 := @fof_ok w (doM 5 w (rg (MachS.rl m) dst) (IntKind.wrap IntKind.u64 imm)) hw
 have c4 := @writes_any_ok 11 w dst src base disp imm cc (by decide)
 exact (o55 (d := .tup [(doS (m.at (u64 (m.pc + u64 (lenX 11 w dst src base disp imm cc)))) ⟨11, w, dst, src, base, disp, imm, cc⟩ ld).1.d, .int .i64 0]) ([.ret _ _ _ c0, tF, .ret _ _ _ c1, tT, .get tbYf0 11 (.nilf) rfl, tT, .inl, .inl, .keep [(4, Ob.box (MachS.cw m (pcX m 11 w dst src base disp imm cc) (xT 11 w dst src base disp imm cc ld)))], .mget tbYf1 11 (some (.int .i8 5)) rfl, .tst _ true (in16 d0 d1), .get _ _ _ (@get_regm m dst ((fT m (pcX m 11 w dst src base disp imm cc) (xT 11 w dst src base disp imm cc ld))) d0 d1), .inl] ++ List.replicate 8 tF ++ List.replicate 9 tT ++ [.keep [(4, Ob.box (MachS.cw m (pcX m 11 w dst src base disp imm cc) (xT 11 w dst src base disp imm cc ld)))], .ret _ _ _ c2, tF, tF, tF, tF, tF, tT, tT, .ret _ _ _ c3, .ret _ _ _ c4, tC (nt (@wr_nz 11 w dst src base disp imm cc hm d0 d1 (rfl : true = true))), .tst _ true (in16 d0 d1), .putA _ _ _ _ (@put_regm m dst (doM 5 w (rg (MachS.rl m) dst) (IntKind.wrap IntKind.u64 imm)) ([.bool true, .bool false, .bool (cutM (doM 5 w (rg (MachS.rl m) dst) (IntKind.wrap IntKind.u64 imm)) w == 0), .bool (negM (doM 5 w (rg (MachS.rl m) dst) (IntKind.wrap IntKind.u64 imm)) w), .bool false, .int .u64 (pcX m 11 w dst src base disp imm cc), .int .i8 11, .int .i8 w, .int .i8 dst, .int .i8 src, .int .i8 base, .int .i64 disp, .int .i64 imm, .int .i8 cc, .int .u64 ld]) d0 d1), tF]) (by kernel_rfl))
theorem exec_13_ok : SpY1f0 13 := by
 intro m w dst src base disp imm cc ld d0 d1 s0 s1 b0 b1 hm hw
 have c0 := @mayX_ok 13 w dst src base disp imm cc (by decide)
 rw [hm] at c0
 have c1 := @xlen_ok 13 w dst src base disp imm cc (by decide)
 have c2 := @bdo_10_ok w (rg (MachS.rl m) dst) (IntKind.wrap IntKind.u64 imm) hw
 have c3 := @fof_ok w (doM 10 w (rg (MachS.rl m) dst) (IntKind.wrap IntKind.u64 imm)) hw
 have c4 := @writes_any_ok 13 w dst src base disp imm cc (by decide)
 exact (o55 (d := .tup [(doS (m.at (u64 (m.pc + u64 (lenX 13 w dst src base disp imm cc)))) ⟨13, w, dst, src, base, disp, imm, cc⟩ ld).1.d, .int .i64 0]) ([.ret _ _ _ c0, tF, .ret _ _ _ c1, tT, .get tbYf0 13 (.nilf) rfl, tT, .inl, .inl, .keep [(4, Ob.box (MachS.cw m (pcX m 13 w dst src base disp imm cc) (xT 13 w dst src base disp imm cc ld)))], .mget tbYf1 13 (some (.int .i8 10)) rfl, .tst _ true (in16 d0 d1), .get _ _ _ (@get_regm m dst ((fT m (pcX m 13 w dst src base disp imm cc) (xT 13 w dst src base disp imm cc ld))) d0 d1), .inl] ++ List.replicate 8 tF ++ List.replicate 9 tT ++ [.keep [(4, Ob.box (MachS.cw m (pcX m 13 w dst src base disp imm cc) (xT 13 w dst src base disp imm cc ld)))], .ret _ _ _ c2, tF, tF, tF, tF, tF, tF, tT, .ret _ _ _ c3, .ret _ _ _ c4, tC (nt (@wr_nz 13 w dst src base disp imm cc hm d0 d1 (rfl : true = true))), .tst _ true (in16 d0 d1), .putA _ _ _ _ (@put_regm m dst (doM 10 w (rg (MachS.rl m) dst) (IntKind.wrap IntKind.u64 imm)) ([.bool true, .bool false, .bool (cutM (doM 10 w (rg (MachS.rl m) dst) (IntKind.wrap IntKind.u64 imm)) w == 0), .bool (negM (doM 10 w (rg (MachS.rl m) dst) (IntKind.wrap IntKind.u64 imm)) w), .bool false, .int .u64 (pcX m 13 w dst src base disp imm cc), .int .i8 13, .int .i8 w, .int .i8 dst, .int .i8 src, .int .i8 base, .int .i64 disp, .int .i64 imm, .int .i8 cc, .int .u64 ld]) d0 d1), tF]) (by kernel_rfl))
theorem exec_14_ok : SpY1f0 14 := by
 intro m w dst src base disp imm cc ld d0 d1 s0 s1 b0 b1 hm hw
 have c0 := @mayX_ok 14 w dst src base disp imm cc (by decide)
 rw [hm] at c0
 have c1 := @xlen_ok 14 w dst src base disp imm cc (by decide)
 have c2 := @bdo_1_ok w (rg (MachS.rl m) dst) (IntKind.wrap IntKind.u64 imm) hw
 have c3 := @fsub_ok w (rg (MachS.rl m) dst) (IntKind.wrap IntKind.u64 imm) hw
 have c4 := @writes_any_ok 14 w dst src base disp imm cc (by decide)
 exact (o55 (d := .tup [(doS (m.at (u64 (m.pc + u64 (lenX 14 w dst src base disp imm cc)))) ⟨14, w, dst, src, base, disp, imm, cc⟩ ld).1.d, .int .i64 0]) ([.ret _ _ _ c0, tF, .ret _ _ _ c1, tT, .get tbYf0 14 (.nilf) rfl, tT, .inl, .inl, .keep [(4, Ob.box (MachS.cw m (pcX m 14 w dst src base disp imm cc) (xT 14 w dst src base disp imm cc ld)))], .mget tbYf1 14 (some (.int .i8 1)) rfl, .tst _ true (in16 d0 d1), .get _ _ _ (@get_regm m dst ((fT m (pcX m 14 w dst src base disp imm cc) (xT 14 w dst src base disp imm cc ld))) d0 d1), .inl] ++ List.replicate 8 tF ++ List.replicate 9 tT ++ [.keep [(4, Ob.box (MachS.cw m (pcX m 14 w dst src base disp imm cc) (xT 14 w dst src base disp imm cc ld)))], .ret _ _ _ c2, tF, tF, tT, .ret _ _ _ c3, .ret _ _ _ c4, tC (nt (eqI 0 true (eq_of_beq (@wr_z 14 w dst src base disp imm cc (rfl : false = false))))), tF]) (by kernel_rfl))
theorem exec_15_ok : SpY1f0 15 := by
 intro m w dst src base disp imm cc ld d0 d1 s0 s1 b0 b1 hm hw
 have c0 := @mayX_ok 15 w dst src base disp imm cc (by decide)
 rw [hm] at c0
 have c1 := @xlen_ok 15 w dst src base disp imm cc (by decide)
 have c2 := @bdo_5_ok w (rg (MachS.rl m) dst) (IntKind.wrap IntKind.u64 imm) hw
 have c3 := @fof_ok w (doM 5 w (rg (MachS.rl m) dst) (IntKind.wrap IntKind.u64 imm)) hw
 have c4 := @writes_any_ok 15 w dst src base disp imm cc (by decide)
 exact (o55 (d := .tup [(doS (m.at (u64 (m.pc + u64 (lenX 15 w dst src base disp imm cc)))) ⟨15, w, dst, src, base, disp, imm, cc⟩ ld).1.d, .int .i64 0]) ([.ret _ _ _ c0, tF, .ret _ _ _ c1, tT, .get tbYf0 15 (.nilf) rfl, tT, .inl, .inl, .keep [(4, Ob.box (MachS.cw m (pcX m 15 w dst src base disp imm cc) (xT 15 w dst src base disp imm cc ld)))], .mget tbYf1 15 (some (.int .i8 5)) rfl, .tst _ true (in16 d0 d1), .get _ _ _ (@get_regm m dst ((fT m (pcX m 15 w dst src base disp imm cc) (xT 15 w dst src base disp imm cc ld))) d0 d1), .inl] ++ List.replicate 8 tF ++ List.replicate 9 tT ++ [.keep [(4, Ob.box (MachS.cw m (pcX m 15 w dst src base disp imm cc) (xT 15 w dst src base disp imm cc ld)))], .ret _ _ _ c2, tF, tF, tF, tF, tF, tT, tT, .ret _ _ _ c3, .ret _ _ _ c4, tC (nt (eqI 0 true (eq_of_beq (@wr_z 15 w dst src base disp imm cc (rfl : false = false))))), tF]) (by kernel_rfl))
theorem exec_16_ok : SpY1f0 16 := by
 intro m w dst src base disp imm cc ld d0 d1 s0 s1 b0 b1 hm hw
 have c0 := @mayX_ok 16 w dst src base disp imm cc (by decide)
 rw [hm] at c0
 have c1 := @xlen_ok 16 w dst src base disp imm cc (by decide)
 have c2 := @bdo_2_ok w (rg (MachS.rl m) dst) (rg (MachS.rl m) src) hw
 have c3 := @fnone_ok
 have c4 := @writes_any_ok 16 w dst src base disp imm cc (by decide)
 exact (o55 (d := .tup [(doS (m.at (u64 (m.pc + u64 (lenX 16 w dst src base disp imm cc)))) ⟨16, w, dst, src, base, disp, imm, cc⟩ ld).1.d, .int .i64 0]) ([.ret _ _ _ c0, tF, .ret _ _ _ c1, tT, .get tbYf0 16 (.nilf) rfl, tT, .inl, .inl, .keep [(4, Ob.box (MachS.cw m (pcX m 16 w dst src base disp imm cc) (xT 16 w dst src base disp imm cc ld)))], .mget tbYf1 16 (some (.int .i8 2)) rfl, .tst _ true (in16 d0 d1), .get _ _ _ (@get_regm m dst ((fT m (pcX m 16 w dst src base disp imm cc) (xT 16 w dst src base disp imm cc ld))) d0 d1), .inl] ++ List.replicate 8 tF ++ [tT, tT, tT, tT, tT, tT, tT] ++ List.replicate 9 tF ++ [.tst _ true (in16 s0 s1), .get _ _ _ (@get_regm m src ((fT m (pcX m 16 w dst src base disp imm cc) (xT 16 w dst src base disp imm cc ld))) s0 s1), .keep [(4, Ob.box (MachS.cw m (pcX m 16 w dst src base disp imm cc) (xT 16 w dst src base disp imm cc ld)))], .ret _ _ _ c2, tF, tF, tF, tF, tF, tF, tF, .ret _ _ _ c3, .ret _ _ _ c4, tC (nt (@wr_nz 16 w dst src base disp imm cc hm d0 d1 (rfl : true = true))), .tst _ true (in16 d0 d1), .putA _ _ _ _ (@put_regm m dst (doM 2 w (rg (MachS.rl m) dst) (rg (MachS.rl m) src)) ([.bool false, .bool false, .bool false, .bool false, .bool false, .int .u64 (pcX m 16 w dst src base disp imm cc), .int .i8 16, .int .i8 w, .int .i8 dst, .int .i8 src, .int .i8 base, .int .i64 disp, .int .i64 imm, .int .i8 cc, .int .u64 ld]) d0 d1), tF]) (by kernel_rfl))
end Go.Proofs.YtkpneibifdoecaaGreat

namespace Go.Proofs.YtkpneibifdoecaaGreat
open Go Go.Ev
set_option maxRecDepth 100000
theorem exec_s_ok (m : MachS) (x : XS) (ld : Int) (ho : x.op ≤ 127) : Ret Tryz.prog 55 [m.d, x.d, .int .u64 ld] (.tup [(execS m x ld).1.d, .int .i64 (execS m x ld).2]) := by
 cases hm : x.may
 ·rw [execS_no hm]
  obtain ⟨q0, q1, q2, q3, q4, q5, q6, q7, q8, q9, q10, q11, q12, q13, q14, q15, fk, fc, fz, fs, fo, pc⟩ := m
  obtain ⟨op, w, dst, src, base, disp, imm, cc⟩ := x
  exact exec_no_ok q0 q1 q2 q3 q4 q5 q6 q7 q8 q9 q10 q11 q12 q13 q14 q15 pc fk fc fz fs fo op w dst src base disp imm cc ld ho hm
 ·rw [execS_may hm]
  obtain ⟨q0, q1, q2, q3, q4, q5, q6, q7, q8, q9, q10, q11, q12, q13, q14, q15, fk, fc, fz, fs, fo, pc⟩ := m
  obtain ⟨op, w, dst, src, base, disp, imm, cc⟩ := x
  replace hm : mayX op w dst src base disp imm cc = true := hm
  have hsh : shapeM op ≠ 0 := by
   intro e
   have hs := (mayX_parts hm).2
   rw [e] at hs
   simp [mayS] at hs
  obtain ⟨⟨d0, d1, s0, s1, b0, b1, _⟩, hs⟩ := mayX_parts hm
  rcases shape_ops hsh with rfl | rfl | rfl | rfl | rfl | rfl | rfl | rfl | rfl | rfl | rfl | rfl | rfl | rfl | rfl | rfl | rfl | rfl | rfl | rfl | rfl | rfl | rfl | rfl | rfl | rfl | rfl | rfl | rfl | rfl | rfl | rfl
  ·exact exec_0_ok ⟨q0, q1, q2, q3, q4, q5, q6, q7, q8, q9, q10, q11, q12, q13, q14, q15, fk, fc, fz, fs, fo, pc⟩ w dst src base disp imm cc ld d0 d1 s0 s1 b0 b1 hm
  ·exact exec_1_ok ⟨q0, q1, q2, q3, q4, q5, q6, q7, q8, q9, q10, q11, q12, q13, q14, q15, fk, fc, fz, fs, fo, pc⟩ w dst src base disp imm cc ld d0 d1 s0 s1 b0 b1 hm
  ·exact exec_2_ok ⟨q0, q1, q2, q3, q4, q5, q6, q7, q8, q9, q10, q11, q12, q13, q14, q15, fk, fc, fz, fs, fo, pc⟩ w dst src base disp imm cc ld d0 d1 s0 s1 b0 b1 hm (may_long hs (by decide))
  ·exact exec_3_ok ⟨q0, q1, q2, q3, q4, q5, q6, q7, q8, q9, q10, q11, q12, q13, q14, q15, fk, fc, fz, fs, fo, pc⟩ w dst src base disp imm cc ld d0 d1 s0 s1 b0 b1 hm (may_long hs (by decide))
  ·exact exec_4_ok ⟨q0, q1, q2, q3, q4, q5, q6, q7, q8, q9, q10, q11, q12, q13, q14, q15, fk, fc, fz, fs, fo, pc⟩ w dst src base disp imm cc ld d0 d1 s0 s1 b0 b1 hm (may_long hs (by decide))
  ·exact exec_5_ok ⟨q0, q1, q2, q3, q4, q5, q6, q7, q8, q9, q10, q11, q12, q13, q14, q15, fk, fc, fz, fs, fo, pc⟩ w dst src base disp imm cc ld d0 d1 s0 s1 b0 b1 hm (may_long hs (by decide))
  ·exact exec_6_ok ⟨q0, q1, q2, q3, q4, q5, q6, q7, q8, q9, q10, q11, q12, q13, q14, q15, fk, fc, fz, fs, fo, pc⟩ w dst src base disp imm cc ld d0 d1 s0 s1 b0 b1 hm (may_long hs (by decide))
  ·exact exec_7_ok ⟨q0, q1, q2, q3, q4, q5, q6, q7, q8, q9, q10, q11, q12, q13, q14, q15, fk, fc, fz, fs, fo, pc⟩ w dst src base disp imm cc ld d0 d1 s0 s1 b0 b1 hm (may_long hs (by decide))
  ·exact exec_8_ok ⟨q0, q1, q2, q3, q4, q5, q6, q7, q8, q9, q10, q11, q12, q13, q14, q15, fk, fc, fz, fs, fo, pc⟩ w dst src base disp imm cc ld d0 d1 s0 s1 b0 b1 hm (may_long hs (by decide))
  ·exact exec_9_ok ⟨q0, q1, q2, q3, q4, q5, q6, q7, q8, q9, q10, q11, q12, q13, q14, q15, fk, fc, fz, fs, fo, pc⟩ w dst src base disp imm cc ld d0 d1 s0 s1 b0 b1 hm (may_long hs (by decide))
  ·exact exec_10_ok ⟨q0, q1, q2, q3, q4, q5, q6, q7, q8, q9, q10, q11, q12, q13, q14, q15, fk, fc, fz, fs, fo, pc⟩ w dst src base disp imm cc ld d0 d1 s0 s1 b0 b1 hm (may_long hs (by decide))
  ·exact exec_11_ok ⟨q0, q1, q2, q3, q4, q5, q6, q7, q8, q9, q10, q11, q12, q13, q14, q15, fk, fc, fz, fs, fo, pc⟩ w dst src base disp imm cc ld d0 d1 s0 s1 b0 b1 hm (may_long hs (by decide))
  ·exact exec_12_ok ⟨q0, q1, q2, q3, q4, q5, q6, q7, q8, q9, q10, q11, q12, q13, q14, q15, fk, fc, fz, fs, fo, pc⟩ w dst src base disp imm cc ld d0 d1 s0 s1 b0 b1 hm (may_long hs (by decide))
  ·exact exec_13_ok ⟨q0, q1, q2, q3, q4, q5, q6, q7, q8, q9, q10, q11, q12, q13, q14, q15, fk, fc, fz, fs, fo, pc⟩ w dst src base disp imm cc ld d0 d1 s0 s1 b0 b1 hm (may_long hs (by decide))
  ·exact exec_14_ok ⟨q0, q1, q2, q3, q4, q5, q6, q7, q8, q9, q10, q11, q12, q13, q14, q15, fk, fc, fz, fs, fo, pc⟩ w dst src base disp imm cc ld d0 d1 s0 s1 b0 b1 hm (may_long hs (by decide))
  ·exact exec_15_ok ⟨q0, q1, q2, q3, q4, q5, q6, q7, q8, q9, q10, q11, q12, q13, q14, q15, fk, fc, fz, fs, fo, pc⟩ w dst src base disp imm cc ld d0 d1 s0 s1 b0 b1 hm (may_long hs (by decide))
  ·exact exec_16_ok ⟨q0, q1, q2, q3, q4, q5, q6, q7, q8, q9, q10, q11, q12, q13, q14, q15, fk, fc, fz, fs, fo, pc⟩ w dst src base disp imm cc ld d0 d1 s0 s1 b0 b1 hm (may_long hs (by decide))
  ·exact exec_17_ok ⟨q0, q1, q2, q3, q4, q5, q6, q7, q8, q9, q10, q11, q12, q13, q14, q15, fk, fc, fz, fs, fo, pc⟩ w dst src base disp imm cc ld d0 d1 s0 s1 b0 b1 hm (may_long hs (by decide))
  ·exact exec_18_ok ⟨q0, q1, q2, q3, q4, q5, q6, q7, q8, q9, q10, q11, q12, q13, q14, q15, fk, fc, fz, fs, fo, pc⟩ w dst src base disp imm cc ld d0 d1 s0 s1 b0 b1 hm (may_long hs (by decide))
  ·exact exec_19_ok ⟨q0, q1, q2, q3, q4, q5, q6, q7, q8, q9, q10, q11, q12, q13, q14, q15, fk, fc, fz, fs, fo, pc⟩ w dst src base disp imm cc ld d0 d1 s0 s1 b0 b1 hm (may_long hs (by decide))
  ·exact exec_20_ok ⟨q0, q1, q2, q3, q4, q5, q6, q7, q8, q9, q10, q11, q12, q13, q14, q15, fk, fc, fz, fs, fo, pc⟩ w dst src base disp imm cc ld d0 d1 s0 s1 b0 b1 hm (may_long hs (by decide))
  ·exact exec_21_ok ⟨q0, q1, q2, q3, q4, q5, q6, q7, q8, q9, q10, q11, q12, q13, q14, q15, fk, fc, fz, fs, fo, pc⟩ w dst src base disp imm cc ld d0 d1 s0 s1 b0 b1 hm (may_long hs (by decide))
  ·exact exec_22_ok ⟨q0, q1, q2, q3, q4, q5, q6, q7, q8, q9, q10, q11, q12, q13, q14, q15, fk, fc, fz, fs, fo, pc⟩ w dst src base disp imm cc ld d0 d1 s0 s1 b0 b1 hm (may_long hs (by decide))
  ·exact exec_23_ok ⟨q0, q1, q2, q3, q4, q5, q6, q7, q8, q9, q10, q11, q12, q13, q14, q15, fk, fc, fz, fs, fo, pc⟩ w dst src base disp imm cc ld d0 d1 s0 s1 b0 b1 hm (may_long hs (by decide))
  ·cases hd : (cutM (rg [q0, q1, q2, q3, q4, q5, q6, q7, q8, q9, q10, q11, q12, q13, q14, q15] dst) w == 0)
   ·cases hz : (cutM q2 w == 0)
    ·have e : doS ((⟨q0, q1, q2, q3, q4, q5, q6, q7, q8, q9, q10, q11, q12, q13, q14, q15, fk, fc, fz, fs, fo, pc⟩ : MachS).at (u64 (pc + u64 (XS.len ⟨24, w, dst, src, base, disp, imm, cc⟩)))) ⟨24, w, dst, src, base, disp, imm, cc⟩ ld = (.zero, 20) := by
      show (match (cutM (rg [q0, q1, q2, q3, q4, q5, q6, q7, q8, q9, q10, q11, q12, q13, q14, q15] dst) w == 0 : Bool) with | true => ((MachS.zero, 20) : MachS × Int) | false => match (cutM q2 w == 0 : Bool) with | false => (.zero, 20) | true => _) = _
      rw [hd, hz]
     rw [e]
     exact exec_24g_ok q0 q1 q2 q3 q4 q5 q6 q7 q8 q9 q10 q11 q12 q13 q14 q15 pc fk fc fz fs fo w dst src base disp imm cc ld d0 d1 s0 s1 b0 b1 hm hd hz
    ·have e : doS ((⟨q0, q1, q2, q3, q4, q5, q6, q7, q8, q9, q10, q11, q12, q13, q14, q15, fk, fc, fz, fs, fo, pc⟩ : MachS).at (u64 (pc + u64 (XS.len ⟨24, w, dst, src, base, disp, imm, cc⟩)))) ⟨24, w, dst, src, base, disp, imm, cc⟩ ld = (⟨u64 ((cutM q0 w).tdiv (cutM (rg [q0, q1, q2, q3, q4, q5, q6, q7, q8, q9, q10, q11, q12, q13, q14, q15] dst) w)), q1, (cutM q0 w).tmod (cutM (rg [q0, q1, q2, q3, q4, q5, q6, q7, q8, q9, q10, q11, q12, q13, q14, q15] dst) w), q3, q4, q5, q6, q7, q8, q9, q10, q11, q12, q13, q14, q15, false, false, false, false, false, u64 (pc + u64 (XS.len ⟨24, w, dst, src, base, disp, imm, cc⟩))⟩, 0) := by
      show (match (cutM (rg [q0, q1, q2, q3, q4, q5, q6, q7, q8, q9, q10, q11, q12, q13, q14, q15] dst) w == 0 : Bool) with | true => ((MachS.zero, 20) : MachS × Int) | false => match (cutM q2 w == 0 : Bool) with | false => (.zero, 20) | true => _) = _
      rw [hd, hz]
      rfl
     rw [e]
     exact exec_24_ok q0 q1 q2 q3 q4 q5 q6 q7 q8 q9 q10 q11 q12 q13 q14 q15 pc fk fc fz fs fo w dst src base disp imm cc ld d0 d1 s0 s1 b0 b1 hm hd hz
   ·have e : doS ((⟨q0, q1, q2, q3, q4, q5, q6, q7, q8, q9, q10, q11, q12, q13, q14, q15, fk, fc, fz, fs, fo, pc⟩ : MachS).at (u64 (pc + u64 (XS.len ⟨24, w, dst, src, base, disp, imm, cc⟩)))) ⟨24, w, dst, src, base, disp, imm, cc⟩ ld = (.zero, 20) := by
     show (match (cutM (rg [q0, q1, q2, q3, q4, q5, q6, q7, q8, q9, q10, q11, q12, q13, q14, q15] dst) w == 0 : Bool) with | true => ((MachS.zero, 20) : MachS × Int) | false => match (cutM q2 w == 0 : Bool) with | false => (.zero, 20) | true => _) = _
     rw [hd]
    rw [e]
    exact exec_24f_ok q0 q1 q2 q3 q4 q5 q6 q7 q8 q9 q10 q11 q12 q13 q14 q15 pc fk fc fz fs fo w dst src base disp imm cc ld d0 d1 s0 s1 b0 b1 hm hd
  ·cases fk
   ·exact exec_25f_ok q0 q1 q2 q3 q4 q5 q6 q7 q8 q9 q10 q11 q12 q13 q14 q15 pc fc fz fs fo w dst src base disp imm cc ld d0 d1 s0 s1 b0 b1 hm (may_cc hs)
   ·exact exec_25_ok q0 q1 q2 q3 q4 q5 q6 q7 q8 q9 q10 q11 q12 q13 q14 q15 pc fc fz fs fo w dst src base disp imm cc ld d0 d1 s0 s1 b0 b1 hm (may_cc hs)
  ·exact exec_26_ok ⟨q0, q1, q2, q3, q4, q5, q6, q7, q8, q9, q10, q11, q12, q13, q14, q15, fk, fc, fz, fs, fo, pc⟩ w dst src base disp imm cc ld d0 d1 s0 s1 b0 b1 hm
  ·exact exec_27_ok ⟨q0, q1, q2, q3, q4, q5, q6, q7, q8, q9, q10, q11, q12, q13, q14, q15, fk, fc, fz, fs, fo, pc⟩ w dst src base disp imm cc ld d0 d1 s0 s1 b0 b1 hm
  ·exact exec_28_ok ⟨q0, q1, q2, q3, q4, q5, q6, q7, q8, q9, q10, q11, q12, q13, q14, q15, fk, fc, fz, fs, fo, pc⟩ w dst src base disp imm cc ld d0 d1 s0 s1 b0 b1 hm
  ·cases fk
   ·exact exec_29f_ok q0 q1 q2 q3 q4 q5 q6 q7 q8 q9 q10 q11 q12 q13 q14 q15 pc fc fz fs fo w dst src base disp imm cc ld d0 d1 s0 s1 b0 b1 hm (may_cc' hs)
   ·exact exec_29_ok q0 q1 q2 q3 q4 q5 q6 q7 q8 q9 q10 q11 q12 q13 q14 q15 pc fc fz fs fo w dst src base disp imm cc ld d0 d1 s0 s1 b0 b1 hm (may_cc' hs)
  ·exact exec_30_ok ⟨q0, q1, q2, q3, q4, q5, q6, q7, q8, q9, q10, q11, q12, q13, q14, q15, fk, fc, fz, fs, fo, pc⟩ w dst src base disp imm cc ld d0 d1 s0 s1 b0 b1 hm
  ·exact exec_31_ok ⟨q0, q1, q2, q3, q4, q5, q6, q7, q8, q9, q10, q11, q12, q13, q14, q15, fk, fc, fz, fs, fo, pc⟩ w dst src base disp imm cc ld d0 d1 s0 s1 b0 b1 hm
end Go.Proofs.YtkpneibifdoecaaGreat

namespace Go.Ev
open Go Go.RowKit Go.ChangeShapes Go.WideShapes
theorem trodAll_below {H : Type} {enc : TypeId × Value → H} {P : Program} (hl : laidOutB P = true) {W W' : World} (hb : Below W.heap.size W W') : ∀ {ts : List TypeId} {vs : List Value} {ds : List (DataW H)} {ps : List MemPlace},
  (∀ t ∈ ts, P.readableRec t = true ∧ t < P.types.size) → DataW.TrodAll enc P W 0 (fun _ => true) true ts vs ds ps → (∀ x ∈ ps, x.block < W.heap.size) → DataW.TrodAll enc P W' 0 (fun b => decide (b < W.heap.size)) true ts vs ds ps
 | [], vs, ds, ps, _, h, _ => by
  obtain ⟨rfl, rfl, rfl⟩ := trodAll_nil h
  rfl
 | t :: ts, vs, ds, ps, hr, h, hp => by
  obtain ⟨v, vs', d, ds', p, q, rfl, rfl, rfl, h1, h2⟩ := trodAll_cons h
  have hrt := hr t (by simp)
  exact ⟨p, q, Below.trod hl hrt.1 hrt.2 h1 hb (fun x hx => hp x (by simp [hx])), trodAll_below hl hb (fun t ht => hr t (by simp [ht])) h2 (fun x hx => hp x (by simp [hx])), rfl⟩
theorem trodAll_lengths {H : Type} {enc : TypeId × Value → H} {P : Program} {W : World} {b : Nat} {sp : Nat → Bool} {hd : Bool} : ∀ {ts : List TypeId} {vs : List Value} {ds : List (DataW H)} {ps : List MemPlace}, DataW.TrodAll enc P W b sp hd ts vs ds ps → vs.length = ts.length ∧ ds.length = ts.length
 | [], vs, ds, ps, h => by
  obtain ⟨rfl, rfl, rfl⟩ := trodAll_nil h
  exact ⟨rfl, rfl⟩
 | t :: ts, vs, ds, ps, h => by
  obtain ⟨v, vs', d, ds', p, q, rfl, rfl, rfl, h1, h2⟩ := trodAll_cons h
  obtain ⟨k1, k2⟩ := trodAll_lengths h2
  exact ⟨by simp [k1], by simp [k2]⟩
theorem law_lifted {a : Assume} {H : Type} {enc : TypeId × Value → H} {C : Checked} {os : Os} {f : FuncId} {fn : Func} {s : ChangeSpec} {conds : List PathCond} {fresh handsOn : Bool} {tb : TypeId}
  (own : ownKnob C.prog.godebug = none) (started : os.Started) (noInit : C.prog.inits.idxOf? f = none) (hfn : C.prog.funcs[f]? = some fn) (hl : laidOutB C.prog = true) (hvars : s.vars = [])
  (hparams : ∀ t ∈ fn.params.toList, C.prog.readableRec t = true ∧ t < C.prog.types.size) (hres : fn.resultTypes = #[tb]) (htb : C.prog.underlying tb = some .bool)
  (hspec : ∀ ds : List (DataW H), ds.length = fn.params.toList.length → (s.fn H ds).results = [.lit (.bool true)] ∧ (s.fn H ds).args = ds ∧ (s.fn H ds).vars = [])
  (witness : ∃ (w : World) (tape : Tape) (i : Input), w.os = os ∧ (w.forCall tape i).Shaped C.prog ∧ i.vars = [] ∧ Input.okWide C.prog (w.forCall tape i) .any w.heap.size f i ∧
   s.pre6 enc C.prog fn conds false (w.forCall tape i).memory i.args ∧ a.holds C.prog (lone (Frame.enter C.prog f i.args .normal) [] (w.forCall tape i)))
  (law : ∀ (W : World) (base : Nat) (args : Array Value) (ds : List (DataW H)) (ps : List MemPlace), (∀ (j : Nat) t v, fn.params[j]? = some t → args[j]? = some v → Value.okWide C.prog W .any base t v) →
   args.toList.length = fn.params.toList.length → DataW.TrodAll enc C.prog W 0 (fun _ => true) true fn.params.toList args.toList ds ps → (DataW.weightsEach C.prog fn.params.toList ds).all (· ≤ reachBytes) = true →
   Calls C.prog f args W fun e W' => e = .returned (.bool true) ∧ Below W.heap.size W W') :
  ReturnsInHanded a C os f .any (s.pre6 enc C.prog fn conds false) (s.post enc C.prog fn false fresh handsOn false) := by
 refine returnsInHanded_of_change_sized own started noInit hfn witness ?_
 intro W base args ds gs before hval hW _ hz _
 have hW' := hW
 obtain ⟨p, q, hA, hV, rfl, hfz, hnd⟩ := hW
 rw [hvars] at hV
 obtain ⟨rfl, rfl⟩ := trodVars_none hV
 obtain ⟨l1, l2⟩ := trodAll_lengths hA
 have hz' : (DataW.weightsEach C.prog fn.params.toList ds).all (· ≤ reachBytes) = true := by
  have e : s.plain.varTypes C.prog = [] := by simp [ChangeSpec.plain, DataSpec.varTypes, hvars]
  rw [e, List.append_nil, List.append_nil] at hz
  exact hz
 refine (law W base args ds p hval l1 hA hz').mono fun e W' ⟨he, hb⟩ => ?_
 subst he
 refine ⟨_, rfl, ds, [], p ++ [], [], p, [], hW', ?_⟩
 rw [List.append_nil]
 obtain ⟨s1, s2, s3⟩ := hspec ds l2
 rw [s1, s2, s3, hres, hvars]
 refine ⟨?_, trodAll_below hl hb hparams hA (fun x hx => by simpa using hW'.lt x (by simpa using hx)), rfl, Below.frame hb _, fun h => nomatch h⟩
 exact trodAll_mk1 (shut_bool htb true)
def okL : List LK → List D → Prop
  | [], ds => ds = []
  | .bool :: ks, ds => ∃ (b : Bool) (r : List D), ds = .bool b :: r ∧ okL ks r
  | .int k :: ks, ds => ∃ (n : Int) (r : List D), ds = .int k n :: r ∧ k.has n ∧ okL ks r
  | .str :: ks, ds => ∃ (b : ByteArray) (r : List D), ds = .str b :: r ∧ (b.size : Int) ≤ IntKind.i64.max ∧ okL ks r
def kindOf (P : Program) (t : TypeId) : Option LK := match P.underlying t with
  | some .bool => some .bool
  | some (.int k) => some (.int k)
  | some .string => some .str
  | _ => none
def kindsOf (P : Program) : List TypeId → Option (List LK)
  | [] => some []
  | t :: r => match kindOf P t, kindsOf P r with
    | some k, some l => some (k :: l)
    | _, _ => none
theorem cell_open {P : Program} {w : World} {r : Reach} {b : Nat} {t : TypeId} {v : Value} {k : LK} (hk : kindOf P t = some k) (h : Cell.okWide P w r b t v) : ∃ d : D, scalD v = some d ∧ ∀ ks ds, okL ks ds → okL (k :: ks) (d :: ds) := by
 unfold kindOf at hk
 unfold Cell.okWide Cell.ok at h
 split at hk
 ·rename_i hu
  obtain rfl := Option.some.inj hk
  rw [hu] at h
  cases v <;> simp at h
  exact ⟨_, rfl, fun ks ds q => ⟨_, _, rfl, q⟩⟩
 ·rename_i k' hu
  obtain rfl := Option.some.inj hk
  rw [hu] at h
  cases v <;> simp at h
  obtain ⟨rfl, h⟩ := h
  exact ⟨_, rfl, fun ks ds q => ⟨_, _, rfl, h, q⟩⟩
 ·rename_i hu
  obtain rfl := Option.some.inj hk
  rw [hu] at h
  cases v <;> simp at h
  exact ⟨_, rfl, fun ks ds q => ⟨_, _, rfl, h, q⟩⟩
 ·cases hk
theorem cells_open {P : Program} {w : World} {r : Reach} {b : Nat} : ∀ {ts : List TypeId} {ks : List LK} {vs : List Value}, kindsOf P ts = some ks → vs.length = ts.length → (∀ (i : Nat) (t : TypeId) (v : Value), ts[i]? = some t → vs[i]? = some v → Cell.okWide P w r b t v) →
  ∃ ds : List D, scalL vs = some ds ∧ okL ks ds
 | [], ks, vs, hk, hl, h => by
  simp only [kindsOf, Option.some.injEq] at hk
  subst hk
  cases vs with
  | nil => exact ⟨[], rfl, rfl⟩
  | cons a b => simp at hl
 | t :: ts, ks, vs, hk, hl, h => by
  simp only [kindsOf] at hk
  split at hk
  ·rename_i k l h1 h2
   obtain rfl := Option.some.inj hk
   cases vs with
   | nil => simp at hl
   | cons v vs =>
    obtain ⟨d, e1, e2⟩ := cell_open h1 (h 0 t v rfl rfl)
    obtain ⟨ds, e3, e4⟩ := cells_open h2 (by simpa using hl) (fun i t' v' p q => h (i + 1) t' v' (by simpa using p) (by simpa using q))
    exact ⟨d :: ds, by simp [scalL, e1, e3], e2 _ _ e4⟩
  ·cases hk
theorem agg_open {P : Program} {w : World} {r : Reach} {b : Nat} {t : TypeId} {v : Value} {ts : List TypeId} {ks : List LK} {M : MM} {e : TypeDesc} (hu : P.underlying t = some e) (ha : aggDesc e = true) (hct : P.cellTypes P.depth t = some ts) (hlen : ts.length = P.cellsOf t) (hk : kindsOf P ts = some ks)
  (h : Value.okWide P w r b t v) : ∃ ds : List D, okL ks ds ∧ Rep M (.agg ds) v := by
 have hagg : ∃ cs, v = .agg cs ∧ cs.size = P.cellsOf t ∧ Row.okWide P w r b t cs := by
  unfold Value.okWide at h
  rw [hu] at h
  cases e <;> first | exact h | cases ha
 obtain ⟨cs, rfl, hsz, ts', hct', _, hrow⟩ := hagg
 rw [hct] at hct'
 obtain rfl := Option.some.inj hct'
 have hcell : ∀ (i : Nat) (t' : TypeId) (v' : Value), ts[i]? = some t' → cs.toList[i]? = some v' → Cell.okWide P w r b t' v' := by
  intro i t' v' p q
  rw [Array.getElem?_toList] at q
  obtain ⟨u, h1, h2⟩ := hrow i v' q
  have hlt : i < ts.length := by
   rcases Nat.lt_or_ge i ts.length with x | x
   ·exact x
   ·rw [List.getElem?_eq_none x] at p; cases p
  rw [Nat.mod_eq_of_lt hlt, p] at h1
  obtain rfl := Option.some.inj h1
  exact h2
 obtain ⟨ds, e1, e2⟩ := cells_open hk (by simp [hsz, hlen]) hcell
 obtain ⟨k1, k2⟩ := repScalL (M := M) e1
 exact ⟨ds, e2, .agg (by simpa using k1) (fun i d v p q => k2 i d v p (by simpa using q))⟩
def allOf (w : World) : Nat → Nat → Option Value := fun b o => w.cell? ⟨b, o, none⟩
theorem Ret.law {P : Program} {f : FuncId} {args : List D} (h : Ret P f args (.bool true)) {W : World} {vs : Array Value} (hr : RepL (bareOf (allOf W)) args vs) : Calls P f vs W fun e W' => e = .returned (.bool true) ∧ Below W.heap.size W W' := by
 refine Calls.mono (h.run W (allOf W) vs (fun b o v k => k) hr) ?_
 rintro e W' ⟨v, C', rfl, hext, hrep, _⟩
 cases hrep
 exact ⟨rfl, hext.below⟩
end Go.Ev
