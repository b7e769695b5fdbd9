/- Contracts and plain laws that a statement's proof leans on (texts merged: Y1f, ESM, I3, EC, I4, I5, I6, I14, ZJ4). -/
import Derived.Test.YtojgmjfcfpclbaaGreatU04
import Derived.Test.YtojgmjfcfpclbaaGreatU05
import Derived.Test.YtojgmjfcfpclbaaGreatU06
import Derived.Test.YtojgmjfcfpclbaaGreatU07
import Derived.Test.YtojgmjfcfpclbaaGreatU10
import Derived.Test.YtojgmjfcfpclbaaGreatU11
set_option linter.unusedVariables false
set_option linter.unusedSimpArgs false
namespace Go.Proofs.YtojgmjfcfpclbaaGreat
open Go Go.Ev
set_option maxRecDepth 100000
set_option maxHeartbeats 8000000
def tbYf0 : List D := [D.fn (Fn.func 48) [D.ptr false 4 0] [], D.fn (Fn.func 49) [D.ptr false 4 0] [], D.nilf, D.nilf, D.nilf, D.nilf, D.nilf, D.nilf, D.nilf, D.nilf, D.nilf, D.nilf, D.nilf, D.nilf, D.nilf, D.nilf, D.nilf, D.nilf, D.nilf, D.nilf, D.nilf, D.nilf, D.nilf, D.nilf, D.fn (Fn.func 50) [D.ptr false 4 0] [], D.fn (Fn.func 51) [D.ptr false 4 0] [], D.fn (Fn.func 52) [D.ptr false 4 0] [], D.fn (Fn.func 53) [D.ptr false 4 0] [], D.fn (Fn.func 54) [D.ptr false 4 0] [], D.fn (Fn.func 55) [D.ptr false 4 0] [], D.fn (Fn.func 56) [D.ptr false 4 0] [], D.fn (Fn.func 57) [D.ptr false 4 0] []]
def tbYf1 : List (Int × D) := [((2 : Int), .int .i8 0), ((9 : Int), .int .i8 0), ((3 : Int), .int .i8 4), ((10 : Int), .int .i8 4), ((4 : Int), .int .i8 5), ((11 : Int), .int .i8 5), ((8 : Int), .int .i8 5), ((15 : Int), .int .i8 5), ((5 : Int), .int .i8 1), ((12 : Int), .int .i8 1), ((7 : Int), .int .i8 1), ((14 : Int), .int .i8 1), ((6 : Int), .int .i8 10), ((13 : Int), .int .i8 10), ((16 : Int), .int .i8 2), ((17 : Int), .int .i8 6), ((20 : Int), .int .i8 6), ((18 : Int), .int .i8 7), ((21 : Int), .int .i8 7), ((19 : Int), .int .i8 12), ((22 : Int), .int .i8 12), ((23 : Int), .int .i8 8)]
def SpY1f0 (k0_ : Int) : Prop := ∀ (m : MachS) (w dst src base disp imm cc ld : Int) (d0 : 0 ≤ dst) (d1 : dst ≤ 15) (s0 : 0 ≤ src) (s1 : src ≤ 15) (b0 : 0 ≤ base) (b1 : base ≤ 15) (hm : mayX k0_ w dst src base disp imm cc = true) (hw : longM w = true), Ret Tryz.prog 8 ([m.d, xD k0_ w dst src base disp imm cc, .int .u64 ld]) (.tup [(doS (m.at (u64 (m.pc + u64 (lenX k0_ w dst src base disp imm cc)))) ⟨k0_, w, dst, src, base, disp, imm, cc⟩ ld).1.d, .int .i64 0])
theorem exec_9_ok : SpY1f0 9 := by
 intro m w dst src base disp imm cc ld d0 d1 s0 s1 b0 b1 hm hw
 have c0 := @mayX_ok 9 w dst src base disp imm cc (by decide)
 rw [hm] at c0
 have c1 := @xlen_ok 9 w dst src base disp imm cc (by decide)
 have c2 := @bdo_0_ok w (rg (MachS.rl m) dst) (IntKind.wrap IntKind.u64 imm) hw
 have c3 := @fadd_ok w (rg (MachS.rl m) dst) (IntKind.wrap IntKind.u64 imm) hw
 have c4 := @writes_any_ok 9 w dst src base disp imm cc (by decide)
 exact (o8 (d := .tup [(doS (m.at (u64 (m.pc + u64 (lenX 9 w dst src base disp imm cc)))) ⟨9, w, dst, src, base, disp, imm, cc⟩ ld).1.d, .int .i64 0]) ([.ret _ _ _ c0, tF, .ret _ _ _ c1, tT, .get tbYf0 9 (.nilf) rfl, tT, .inl, .inl, .keep [(4, Ob.box (MachS.cw m (pcX m 9 w dst src base disp imm cc) (xT 9 w dst src base disp imm cc ld)))], .mget tbYf1 9 (some (.int .i8 0)) rfl, .tst _ true (in16 d0 d1), .get _ _ _ (@get_regm m dst ((fT m (pcX m 9 w dst src base disp imm cc) (xT 9 w dst src base disp imm cc ld))) d0 d1), .inl] ++ List.replicate 8 tF ++ List.replicate 9 tT ++ [.keep [(4, Ob.box (MachS.cw m (pcX m 9 w dst src base disp imm cc) (xT 9 w dst src base disp imm cc ld)))], .ret _ _ _ c2, tF, tT, .ret _ _ _ c3, .ret _ _ _ c4, tC (nt (@wr_nz 9 w dst src base disp imm cc hm d0 d1 (rfl : true = true))), .tst _ true (in16 d0 d1), .putA _ _ _ _ (@put_regm m dst (doM 0 w (rg (MachS.rl m) dst) (IntKind.wrap IntKind.u64 imm)) ([.bool true, .bool (addC w (rg (MachS.rl m) dst) (IntKind.wrap IntKind.u64 imm)), .bool (cutM (u64 (rg (MachS.rl m) dst + IntKind.wrap IntKind.u64 imm)) w == 0), .bool (negM (u64 (rg (MachS.rl m) dst + IntKind.wrap IntKind.u64 imm)) w), .bool (addO w (rg (MachS.rl m) dst) (IntKind.wrap IntKind.u64 imm)), .int .u64 (pcX m 9 w dst src base disp imm cc), .int .i8 9, .int .i8 w, .int .i8 dst, .int .i8 src, .int .i8 base, .int .i64 disp, .int .i64 imm, .int .i8 cc, .int .u64 ld]) d0 d1), tF]) (by kernel_rfl))
theorem exec_10_ok : SpY1f0 10 := by
 intro m w dst src base disp imm cc ld d0 d1 s0 s1 b0 b1 hm hw
 have c0 := @mayX_ok 10 w dst src base disp imm cc (by decide)
 rw [hm] at c0
 have c1 := @xlen_ok 10 w dst src base disp imm cc (by decide)
 have c2 := @bdo_4_ok w (rg (MachS.rl m) dst) (IntKind.wrap IntKind.u64 imm) hw
 have c3 := @fof_ok w (doM 4 w (rg (MachS.rl m) dst) (IntKind.wrap IntKind.u64 imm)) hw
 have c4 := @writes_any_ok 10 w dst src base disp imm cc (by decide)
 exact (o8 (d := .tup [(doS (m.at (u64 (m.pc + u64 (lenX 10 w dst src base disp imm cc)))) ⟨10, w, dst, src, base, disp, imm, cc⟩ ld).1.d, .int .i64 0]) ([.ret _ _ _ c0, tF, .ret _ _ _ c1, tT, .get tbYf0 10 (.nilf) rfl, tT, .inl, .inl, .keep [(4, Ob.box (MachS.cw m (pcX m 10 w dst src base disp imm cc) (xT 10 w dst src base disp imm cc ld)))], .mget tbYf1 10 (some (.int .i8 4)) rfl, .tst _ true (in16 d0 d1), .get _ _ _ (@get_regm m dst ((fT m (pcX m 10 w dst src base disp imm cc) (xT 10 w dst src base disp imm cc ld))) d0 d1), .inl] ++ List.replicate 8 tF ++ List.replicate 9 tT ++ [.keep [(4, Ob.box (MachS.cw m (pcX m 10 w dst src base disp imm cc) (xT 10 w dst src base disp imm cc ld)))], .ret _ _ _ c2, tF, tF, tF, tF, tT, tT, .ret _ _ _ c3, .ret _ _ _ c4, tC (nt (@wr_nz 10 w dst src base disp imm cc hm d0 d1 (rfl : true = true))), .tst _ true (in16 d0 d1), .putA _ _ _ _ (@put_regm m dst (doM 4 w (rg (MachS.rl m) dst) (IntKind.wrap IntKind.u64 imm)) ([.bool true, .bool false, .bool (cutM (doM 4 w (rg (MachS.rl m) dst) (IntKind.wrap IntKind.u64 imm)) w == 0), .bool (negM (doM 4 w (rg (MachS.rl m) dst) (IntKind.wrap IntKind.u64 imm)) w), .bool false, .int .u64 (pcX m 10 w dst src base disp imm cc), .int .i8 10, .int .i8 w, .int .i8 dst, .int .i8 src, .int .i8 base, .int .i64 disp, .int .i64 imm, .int .i8 cc, .int .u64 ld]) d0 d1), tF]) (by kernel_rfl))
theorem exec_11_ok : SpY1f0 11 := by
 intro m w dst src base disp imm cc ld d0 d1 s0 s1 b0 b1 hm hw
 have c0 := @mayX_ok 11 w dst src base disp imm cc (by decide)
 rw [hm] at c0
 have c1 := @xlen_ok 11 w dst src base disp imm cc (by decide)
 have c2 := @bdo_5_ok w (rg (MachS.rl m) dst) (IntKind.wrap IntKind.u64 imm) hw
 have c3 := @fof_ok w (doM 5 w (rg (MachS.rl m) dst) (IntKind.wrap IntKind.u64 imm)) hw
 have c4 := @writes_any_ok 11 w dst src base disp imm cc (by decide)
 exact (o8 (d := .tup [(doS (m.at (u64 (m.pc + u64 (lenX 11 w dst src base disp imm cc)))) ⟨11, w, dst, src, base, disp, imm, cc⟩ ld).1.d, .int .i64 0]) ([.ret _ _ _ c0, tF, .ret _ _ _ c1, tT, .get tbYf0 11 (.nilf) rfl, tT, .inl, .inl, .keep [(4, Ob.box (MachS.cw m (pcX m 11 w dst src base disp imm cc) (xT 11 w dst src base disp imm cc ld)))], .mget tbYf1 11 (some (.int .i8 5)) rfl, .tst _ true (in16 d0 d1), .get _ _ _ (@get_regm m dst ((fT m (pcX m 11 w dst src base disp imm cc) (xT 11 w dst src base disp imm cc ld))) d0 d1), .inl] ++ List.replicate 8 tF ++ List.replicate 9 tT ++ [.keep [(4, Ob.box (MachS.cw m (pcX m 11 w dst src base disp imm cc) (xT 11 w dst src base disp imm cc ld)))], .ret _ _ _ c2, tF, tF, tF, tF, tF, tT, tT, .ret _ _ _ c3, .ret _ _ _ c4, tC (nt (@wr_nz 11 w dst src base disp imm cc hm d0 d1 (rfl : true = true))), .tst _ true (in16 d0 d1), .putA _ _ _ _ (@put_regm m dst (doM 5 w (rg (MachS.rl m) dst) (IntKind.wrap IntKind.u64 imm)) ([.bool true, .bool false, .bool (cutM (doM 5 w (rg (MachS.rl m) dst) (IntKind.wrap IntKind.u64 imm)) w == 0), .bool (negM (doM 5 w (rg (MachS.rl m) dst) (IntKind.wrap IntKind.u64 imm)) w), .bool false, .int .u64 (pcX m 11 w dst src base disp imm cc), .int .i8 11, .int .i8 w, .int .i8 dst, .int .i8 src, .int .i8 base, .int .i64 disp, .int .i64 imm, .int .i8 cc, .int .u64 ld]) d0 d1), tF]) (by kernel_rfl))
theorem exec_13_ok : SpY1f0 13 := by
 intro m w dst src base disp imm cc ld d0 d1 s0 s1 b0 b1 hm hw
 have c0 := @mayX_ok 13 w dst src base disp imm cc (by decide)
 rw [hm] at c0
 have c1 := @xlen_ok 13 w dst src base disp imm cc (by decide)
 have c2 := @bdo_10_ok w (rg (MachS.rl m) dst) (IntKind.wrap IntKind.u64 imm) hw
 have c3 := @fof_ok w (doM 10 w (rg (MachS.rl m) dst) (IntKind.wrap IntKind.u64 imm)) hw
 have c4 := @writes_any_ok 13 w dst src base disp imm cc (by decide)
 exact (o8 (d := .tup [(doS (m.at (u64 (m.pc + u64 (lenX 13 w dst src base disp imm cc)))) ⟨13, w, dst, src, base, disp, imm, cc⟩ ld).1.d, .int .i64 0]) ([.ret _ _ _ c0, tF, .ret _ _ _ c1, tT, .get tbYf0 13 (.nilf) rfl, tT, .inl, .inl, .keep [(4, Ob.box (MachS.cw m (pcX m 13 w dst src base disp imm cc) (xT 13 w dst src base disp imm cc ld)))], .mget tbYf1 13 (some (.int .i8 10)) rfl, .tst _ true (in16 d0 d1), .get _ _ _ (@get_regm m dst ((fT m (pcX m 13 w dst src base disp imm cc) (xT 13 w dst src base disp imm cc ld))) d0 d1), .inl] ++ List.replicate 8 tF ++ List.replicate 9 tT ++ [.keep [(4, Ob.box (MachS.cw m (pcX m 13 w dst src base disp imm cc) (xT 13 w dst src base disp imm cc ld)))], .ret _ _ _ c2, tF, tF, tF, tF, tF, tF, tT, .ret _ _ _ c3, .ret _ _ _ c4, tC (nt (@wr_nz 13 w dst src base disp imm cc hm d0 d1 (rfl : true = true))), .tst _ true (in16 d0 d1), .putA _ _ _ _ (@put_regm m dst (doM 10 w (rg (MachS.rl m) dst) (IntKind.wrap IntKind.u64 imm)) ([.bool true, .bool false, .bool (cutM (doM 10 w (rg (MachS.rl m) dst) (IntKind.wrap IntKind.u64 imm)) w == 0), .bool (negM (doM 10 w (rg (MachS.rl m) dst) (IntKind.wrap IntKind.u64 imm)) w), .bool false, .int .u64 (pcX m 13 w dst src base disp imm cc), .int .i8 13, .int .i8 w, .int .i8 dst, .int .i8 src, .int .i8 base, .int .i64 disp, .int .i64 imm, .int .i8 cc, .int .u64 ld]) d0 d1), tF]) (by kernel_rfl))
theorem exec_14_ok : SpY1f0 14 := by
 intro m w dst src base disp imm cc ld d0 d1 s0 s1 b0 b1 hm hw
 have c0 := @mayX_ok 14 w dst src base disp imm cc (by decide)
 rw [hm] at c0
 have c1 := @xlen_ok 14 w dst src base disp imm cc (by decide)
 have c2 := @bdo_1_ok w (rg (MachS.rl m) dst) (IntKind.wrap IntKind.u64 imm) hw
 have c3 := @fsub_ok w (rg (MachS.rl m) dst) (IntKind.wrap IntKind.u64 imm) hw
 have c4 := @writes_any_ok 14 w dst src base disp imm cc (by decide)
 exact (o8 (d := .tup [(doS (m.at (u64 (m.pc + u64 (lenX 14 w dst src base disp imm cc)))) ⟨14, w, dst, src, base, disp, imm, cc⟩ ld).1.d, .int .i64 0]) ([.ret _ _ _ c0, tF, .ret _ _ _ c1, tT, .get tbYf0 14 (.nilf) rfl, tT, .inl, .inl, .keep [(4, Ob.box (MachS.cw m (pcX m 14 w dst src base disp imm cc) (xT 14 w dst src base disp imm cc ld)))], .mget tbYf1 14 (some (.int .i8 1)) rfl, .tst _ true (in16 d0 d1), .get _ _ _ (@get_regm m dst ((fT m (pcX m 14 w dst src base disp imm cc) (xT 14 w dst src base disp imm cc ld))) d0 d1), .inl] ++ List.replicate 8 tF ++ List.replicate 9 tT ++ [.keep [(4, Ob.box (MachS.cw m (pcX m 14 w dst src base disp imm cc) (xT 14 w dst src base disp imm cc ld)))], .ret _ _ _ c2, tF, tF, tT, .ret _ _ _ c3, .ret _ _ _ c4, tC (nt (eqI 0 true (eq_of_beq (@wr_z 14 w dst src base disp imm cc (rfl : false = false))))), tF]) (by kernel_rfl))
theorem exec_15_ok : SpY1f0 15 := by
 intro m w dst src base disp imm cc ld d0 d1 s0 s1 b0 b1 hm hw
 have c0 := @mayX_ok 15 w dst src base disp imm cc (by decide)
 rw [hm] at c0
 have c1 := @xlen_ok 15 w dst src base disp imm cc (by decide)
 have c2 := @bdo_5_ok w (rg (MachS.rl m) dst) (IntKind.wrap IntKind.u64 imm) hw
 have c3 := @fof_ok w (doM 5 w (rg (MachS.rl m) dst) (IntKind.wrap IntKind.u64 imm)) hw
 have c4 := @writes_any_ok 15 w dst src base disp imm cc (by decide)
 exact (o8 (d := .tup [(doS (m.at (u64 (m.pc + u64 (lenX 15 w dst src base disp imm cc)))) ⟨15, w, dst, src, base, disp, imm, cc⟩ ld).1.d, .int .i64 0]) ([.ret _ _ _ c0, tF, .ret _ _ _ c1, tT, .get tbYf0 15 (.nilf) rfl, tT, .inl, .inl, .keep [(4, Ob.box (MachS.cw m (pcX m 15 w dst src base disp imm cc) (xT 15 w dst src base disp imm cc ld)))], .mget tbYf1 15 (some (.int .i8 5)) rfl, .tst _ true (in16 d0 d1), .get _ _ _ (@get_regm m dst ((fT m (pcX m 15 w dst src base disp imm cc) (xT 15 w dst src base disp imm cc ld))) d0 d1), .inl] ++ List.replicate 8 tF ++ List.replicate 9 tT ++ [.keep [(4, Ob.box (MachS.cw m (pcX m 15 w dst src base disp imm cc) (xT 15 w dst src base disp imm cc ld)))], .ret _ _ _ c2, tF, tF, tF, tF, tF, tT, tT, .ret _ _ _ c3, .ret _ _ _ c4, tC (nt (eqI 0 true (eq_of_beq (@wr_z 15 w dst src base disp imm cc (rfl : false = false))))), tF]) (by kernel_rfl))
theorem exec_16_ok : SpY1f0 16 := by
 intro m w dst src base disp imm cc ld d0 d1 s0 s1 b0 b1 hm hw
 have c0 := @mayX_ok 16 w dst src base disp imm cc (by decide)
 rw [hm] at c0
 have c1 := @xlen_ok 16 w dst src base disp imm cc (by decide)
 have c2 := @bdo_2_ok w (rg (MachS.rl m) dst) (rg (MachS.rl m) src) hw
 have c3 := @fnone_ok
 have c4 := @writes_any_ok 16 w dst src base disp imm cc (by decide)
 exact (o8 (d := .tup [(doS (m.at (u64 (m.pc + u64 (lenX 16 w dst src base disp imm cc)))) ⟨16, w, dst, src, base, disp, imm, cc⟩ ld).1.d, .int .i64 0]) ([.ret _ _ _ c0, tF, .ret _ _ _ c1, tT, .get tbYf0 16 (.nilf) rfl, tT, .inl, .inl, .keep [(4, Ob.box (MachS.cw m (pcX m 16 w dst src base disp imm cc) (xT 16 w dst src base disp imm cc ld)))], .mget tbYf1 16 (some (.int .i8 2)) rfl, .tst _ true (in16 d0 d1), .get _ _ _ (@get_regm m dst ((fT m (pcX m 16 w dst src base disp imm cc) (xT 16 w dst src base disp imm cc ld))) d0 d1), .inl] ++ List.replicate 8 tF ++ [tT, tT, tT, tT, tT, tT, tT] ++ List.replicate 9 tF ++ [.tst _ true (in16 s0 s1), .get _ _ _ (@get_regm m src ((fT m (pcX m 16 w dst src base disp imm cc) (xT 16 w dst src base disp imm cc ld))) s0 s1), .keep [(4, Ob.box (MachS.cw m (pcX m 16 w dst src base disp imm cc) (xT 16 w dst src base disp imm cc ld)))], .ret _ _ _ c2, tF, tF, tF, tF, tF, tF, tF, .ret _ _ _ c3, .ret _ _ _ c4, tC (nt (@wr_nz 16 w dst src base disp imm cc hm d0 d1 (rfl : true = true))), .tst _ true (in16 d0 d1), .putA _ _ _ _ (@put_regm m dst (doM 2 w (rg (MachS.rl m) dst) (rg (MachS.rl m) src)) ([.bool false, .bool false, .bool false, .bool false, .bool false, .int .u64 (pcX m 16 w dst src base disp imm cc), .int .i8 16, .int .i8 w, .int .i8 dst, .int .i8 src, .int .i8 base, .int .i64 disp, .int .i64 imm, .int .i8 cc, .int .u64 ld]) d0 d1), tF]) (by kernel_rfl))
end Go.Proofs.YtojgmjfcfpclbaaGreat

namespace Go.Proofs.YtojgmjfcfpclbaaGreat
open Go Go.Ev
set_option maxRecDepth 100000
theorem exec_s_ok (m : MachS) (x : XS) (ld : Int) (ho : x.op ≤ 127) : Ret Tryz.prog 8 [m.d, x.d, .int .u64 ld] (.tup [(execS m x ld).1.d, .int .i64 (execS m x ld).2]) := by
 cases hm : x.may
 ·rw [execS_no hm]
  obtain ⟨q0, q1, q2, q3, q4, q5, q6, q7, q8, q9, q10, q11, q12, q13, q14, q15, fk, fc, fz, fs, fo, pc⟩ := m
  obtain ⟨op, w, dst, src, base, disp, imm, cc⟩ := x
  exact exec_no_ok q0 q1 q2 q3 q4 q5 q6 q7 q8 q9 q10 q11 q12 q13 q14 q15 pc fk fc fz fs fo op w dst src base disp imm cc ld ho hm
 ·rw [execS_may hm]
  obtain ⟨q0, q1, q2, q3, q4, q5, q6, q7, q8, q9, q10, q11, q12, q13, q14, q15, fk, fc, fz, fs, fo, pc⟩ := m
  obtain ⟨op, w, dst, src, base, disp, imm, cc⟩ := x
  replace hm : mayX op w dst src base disp imm cc = true := hm
  have hsh : shapeM op ≠ 0 := by
   intro e
   have hs := (mayX_parts hm).2
   rw [e] at hs
   simp [mayS] at hs
  obtain ⟨⟨d0, d1, s0, s1, b0, b1, _⟩, hs⟩ := mayX_parts hm
  rcases shape_ops hsh with rfl | rfl | rfl | rfl | rfl | rfl | rfl | rfl | rfl | rfl | rfl | rfl | rfl | rfl | rfl | rfl | rfl | rfl | rfl | rfl | rfl | rfl | rfl | rfl | rfl | rfl | rfl | rfl | rfl | rfl | rfl | rfl
  ·exact exec_0_ok ⟨q0, q1, q2, q3, q4, q5, q6, q7, q8, q9, q10, q11, q12, q13, q14, q15, fk, fc, fz, fs, fo, pc⟩ w dst src base disp imm cc ld d0 d1 s0 s1 b0 b1 hm
  ·exact exec_1_ok ⟨q0, q1, q2, q3, q4, q5, q6, q7, q8, q9, q10, q11, q12, q13, q14, q15, fk, fc, fz, fs, fo, pc⟩ w dst src base disp imm cc ld d0 d1 s0 s1 b0 b1 hm
  ·exact exec_2_ok ⟨q0, q1, q2, q3, q4, q5, q6, q7, q8, q9, q10, q11, q12, q13, q14, q15, fk, fc, fz, fs, fo, pc⟩ w dst src base disp imm cc ld d0 d1 s0 s1 b0 b1 hm (may_long hs (by decide))
  ·exact exec_3_ok ⟨q0, q1, q2, q3, q4, q5, q6, q7, q8, q9, q10, q11, q12, q13, q14, q15, fk, fc, fz, fs, fo, pc⟩ w dst src base disp imm cc ld d0 d1 s0 s1 b0 b1 hm (may_long hs (by decide))
  ·exact exec_4_ok ⟨q0, q1, q2, q3, q4, q5, q6, q7, q8, q9, q10, q11, q12, q13, q14, q15, fk, fc, fz, fs, fo, pc⟩ w dst src base disp imm cc ld d0 d1 s0 s1 b0 b1 hm (may_long hs (by decide))
  ·exact exec_5_ok ⟨q0, q1, q2, q3, q4, q5, q6, q7, q8, q9, q10, q11, q12, q13, q14, q15, fk, fc, fz, fs, fo, pc⟩ w dst src base disp imm cc ld d0 d1 s0 s1 b0 b1 hm (may_long hs (by decide))
  ·exact exec_6_ok ⟨q0, q1, q2, q3, q4, q5, q6, q7, q8, q9, q10, q11, q12, q13, q14, q15, fk, fc, fz, fs, fo, pc⟩ w dst src base disp imm cc ld d0 d1 s0 s1 b0 b1 hm (may_long hs (by decide))
  ·exact exec_7_ok ⟨q0, q1, q2, q3, q4, q5, q6, q7, q8, q9, q10, q11, q12, q13, q14, q15, fk, fc, fz, fs, fo, pc⟩ w dst src base disp imm cc ld d0 d1 s0 s1 b0 b1 hm (may_long hs (by decide))
  ·exact exec_8_ok ⟨q0, q1, q2, q3, q4, q5, q6, q7, q8, q9, q10, q11, q12, q13, q14, q15, fk, fc, fz, fs, fo, pc⟩ w dst src base disp imm cc ld d0 d1 s0 s1 b0 b1 hm (may_long hs (by decide))
  ·exact exec_9_ok ⟨q0, q1, q2, q3, q4, q5, q6, q7, q8, q9, q10, q11, q12, q13, q14, q15, fk, fc, fz, fs, fo, pc⟩ w dst src base disp imm cc ld d0 d1 s0 s1 b0 b1 hm (may_long hs (by decide))
  ·exact exec_10_ok ⟨q0, q1, q2, q3, q4, q5, q6, q7, q8, q9, q10, q11, q12, q13, q14, q15, fk, fc, fz, fs, fo, pc⟩ w dst src base disp imm cc ld d0 d1 s0 s1 b0 b1 hm (may_long hs (by decide))
  ·exact exec_11_ok ⟨q0, q1, q2, q3, q4, q5, q6, q7, q8, q9, q10, q11, q12, q13, q14, q15, fk, fc, fz, fs, fo, pc⟩ w dst src base disp imm cc ld d0 d1 s0 s1 b0 b1 hm (may_long hs (by decide))
  ·exact exec_12_ok ⟨q0, q1, q2, q3, q4, q5, q6, q7, q8, q9, q10, q11, q12, q13, q14, q15, fk, fc, fz, fs, fo, pc⟩ w dst src base disp imm cc ld d0 d1 s0 s1 b0 b1 hm (may_long hs (by decide))
  ·exact exec_13_ok ⟨q0, q1, q2, q3, q4, q5, q6, q7, q8, q9, q10, q11, q12, q13, q14, q15, fk, fc, fz, fs, fo, pc⟩ w dst src base disp imm cc ld d0 d1 s0 s1 b0 b1 hm (may_long hs (by decide))
  ·exact exec_14_ok ⟨q0, q1, q2, q3, q4, q5, q6, q7, q8, q9, q10, q11, q12, q13, q14, q15, fk, fc, fz, fs, fo, pc⟩ w dst src base disp imm cc ld d0 d1 s0 s1 b0 b1 hm (may_long hs (by decide))
  ·exact exec_15_ok ⟨q0, q1, q2, q3, q4, q5, q6, q7, q8, q9, q10, q11, q12, q13, q14, q15, fk, fc, fz, fs, fo, pc⟩ w dst src base disp imm cc ld d0 d1 s0 s1 b0 b1 hm (may_long hs (by decide))
  ·exact exec_16_ok ⟨q0, q1, q2, q3, q4, q5, q6, q7, q8, q9, q10, q11, q12, q13, q14, q15, fk, fc, fz, fs, fo, pc⟩ w dst src base disp imm cc ld d0 d1 s0 s1 b0 b1 hm (may_long hs (by decide))
  ·exact exec_17_ok ⟨q0, q1, q2, q3, q4, q5, q6, q7, q8, q9, q10, q11, q12, q13, q14, q15, fk, fc, fz, fs, fo, pc⟩ w dst src base disp imm cc ld d0 d1 s0 s1 b0 b1 hm (may_long hs (by decide))
  ·exact exec_18_ok ⟨q0, q1, q2, q3, q4, q5, q6, q7, q8, q9, q10, q11, q12, q13, q14, q15, fk, fc, fz, fs, fo, pc⟩ w dst src base disp imm cc ld d0 d1 s0 s1 b0 b1 hm (may_long hs (by decide))
  ·exact exec_19_ok ⟨q0, q1, q2, q3, q4, q5, q6, q7, q8, q9, q10, q11, q12, q13, q14, q15, fk, fc, fz, fs, fo, pc⟩ w dst src base disp imm cc ld d0 d1 s0 s1 b0 b1 hm (may_long hs (by decide))
  ·exact exec_20_ok ⟨q0, q1, q2, q3, q4, q5, q6, q7, q8, q9, q10, q11, q12, q13, q14, q15, fk, fc, fz, fs, fo, pc⟩ w dst src base disp imm cc ld d0 d1 s0 s1 b0 b1 hm (may_long hs (by decide))
  ·exact exec_21_ok ⟨q0, q1, q2, q3, q4, q5, q6, q7, q8, q9, q10, q11, q12, q13, q14, q15, fk, fc, fz, fs, fo, pc⟩ w dst src base disp imm cc ld d0 d1 s0 s1 b0 b1 hm (may_long hs (by decide))
  ·exact exec_22_ok ⟨q0, q1, q2, q3, q4, q5, q6, q7, q8, q9, q10, q11, q12, q13, q14, q15, fk, fc, fz, fs, fo, pc⟩ w dst src base disp imm cc ld d0 d1 s0 s1 b0 b1 hm (may_long hs (by decide))
  ·exact exec_23_ok ⟨q0, q1, q2, q3, q4, q5, q6, q7, q8, q9, q10, q11, q12, q13, q14, q15, fk, fc, fz, fs, fo, pc⟩ w dst src base disp imm cc ld d0 d1 s0 s1 b0 b1 hm (may_long hs (by decide))
  ·cases hd : (cutM (rg [q0, q1, q2, q3, q4, q5, q6, q7, q8, q9, q10, q11, q12, q13, q14, q15] dst) w == 0)
   ·cases hz : (cutM q2 w == 0)
    ·have e : doS ((⟨q0, q1, q2, q3, q4, q5, q6, q7, q8, q9, q10, q11, q12, q13, q14, q15, fk, fc, fz, fs, fo, pc⟩ : MachS).at (u64 (pc + u64 (XS.len ⟨24, w, dst, src, base, disp, imm, cc⟩)))) ⟨24, w, dst, src, base, disp, imm, cc⟩ ld = (.zero, 20) := by
      show (match (cutM (rg [q0, q1, q2, q3, q4, q5, q6, q7, q8, q9, q10, q11, q12, q13, q14, q15] dst) w == 0 : Bool) with | true => ((MachS.zero, 20) : MachS × Int) | false => match (cutM q2 w == 0 : Bool) with | false => (.zero, 20) | true => _) = _
      rw [hd, hz]
     rw [e]
     exact exec_24g_ok q0 q1 q2 q3 q4 q5 q6 q7 q8 q9 q10 q11 q12 q13 q14 q15 pc fk fc fz fs fo w dst src base disp imm cc ld d0 d1 s0 s1 b0 b1 hm hd hz
    ·have e : doS ((⟨q0, q1, q2, q3, q4, q5, q6, q7, q8, q9, q10, q11, q12, q13, q14, q15, fk, fc, fz, fs, fo, pc⟩ : MachS).at (u64 (pc + u64 (XS.len ⟨24, w, dst, src, base, disp, imm, cc⟩)))) ⟨24, w, dst, src, base, disp, imm, cc⟩ ld = (⟨u64 ((cutM q0 w).tdiv (cutM (rg [q0, q1, q2, q3, q4, q5, q6, q7, q8, q9, q10, q11, q12, q13, q14, q15] dst) w)), q1, (cutM q0 w).tmod (cutM (rg [q0, q1, q2, q3, q4, q5, q6, q7, q8, q9, q10, q11, q12, q13, q14, q15] dst) w), q3, q4, q5, q6, q7, q8, q9, q10, q11, q12, q13, q14, q15, false, false, false, false, false, u64 (pc + u64 (XS.len ⟨24, w, dst, src, base, disp, imm, cc⟩))⟩, 0) := by
      show (match (cutM (rg [q0, q1, q2, q3, q4, q5, q6, q7, q8, q9, q10, q11, q12, q13, q14, q15] dst) w == 0 : Bool) with | true => ((MachS.zero, 20) : MachS × Int) | false => match (cutM q2 w == 0 : Bool) with | false => (.zero, 20) | true => _) = _
      rw [hd, hz]
      rfl
     rw [e]
     exact exec_24_ok q0 q1 q2 q3 q4 q5 q6 q7 q8 q9 q10 q11 q12 q13 q14 q15 pc fk fc fz fs fo w dst src base disp imm cc ld d0 d1 s0 s1 b0 b1 hm hd hz
   ·have e : doS ((⟨q0, q1, q2, q3, q4, q5, q6, q7, q8, q9, q10, q11, q12, q13, q14, q15, fk, fc, fz, fs, fo, pc⟩ : MachS).at (u64 (pc + u64 (XS.len ⟨24, w, dst, src, base, disp, imm, cc⟩)))) ⟨24, w, dst, src, base, disp, imm, cc⟩ ld = (.zero, 20) := by
     show (match (cutM (rg [q0, q1, q2, q3, q4, q5, q6, q7, q8, q9, q10, q11, q12, q13, q14, q15] dst) w == 0 : Bool) with | true => ((MachS.zero, 20) : MachS × Int) | false => match (cutM q2 w == 0 : Bool) with | false => (.zero, 20) | true => _) = _
     rw [hd]
    rw [e]
    exact exec_24f_ok q0 q1 q2 q3 q4 q5 q6 q7 q8 q9 q10 q11 q12 q13 q14 q15 pc fk fc fz fs fo w dst src base disp imm cc ld d0 d1 s0 s1 b0 b1 hm hd
  ·cases fk
   ·exact exec_25f_ok q0 q1 q2 q3 q4 q5 q6 q7 q8 q9 q10 q11 q12 q13 q14 q15 pc fc fz fs fo w dst src base disp imm cc ld d0 d1 s0 s1 b0 b1 hm (may_cc hs)
   ·exact exec_25_ok q0 q1 q2 q3 q4 q5 q6 q7 q8 q9 q10 q11 q12 q13 q14 q15 pc fc fz fs fo w dst src base disp imm cc ld d0 d1 s0 s1 b0 b1 hm (may_cc hs)
  ·exact exec_26_ok ⟨q0, q1, q2, q3, q4, q5, q6, q7, q8, q9, q10, q11, q12, q13, q14, q15, fk, fc, fz, fs, fo, pc⟩ w dst src base disp imm cc ld d0 d1 s0 s1 b0 b1 hm
  ·exact exec_27_ok ⟨q0, q1, q2, q3, q4, q5, q6, q7, q8, q9, q10, q11, q12, q13, q14, q15, fk, fc, fz, fs, fo, pc⟩ w dst src base disp imm cc ld d0 d1 s0 s1 b0 b1 hm
  ·exact exec_28_ok ⟨q0, q1, q2, q3, q4, q5, q6, q7, q8, q9, q10, q11, q12, q13, q14, q15, fk, fc, fz, fs, fo, pc⟩ w dst src base disp imm cc ld d0 d1 s0 s1 b0 b1 hm
  ·cases fk
   ·exact exec_29f_ok q0 q1 q2 q3 q4 q5 q6 q7 q8 q9 q10 q11 q12 q13 q14 q15 pc fc fz fs fo w dst src base disp imm cc ld d0 d1 s0 s1 b0 b1 hm (may_cc' hs)
   ·exact exec_29_ok q0 q1 q2 q3 q4 q5 q6 q7 q8 q9 q10 q11 q12 q13 q14 q15 pc fc fz fs fo w dst src base disp imm cc ld d0 d1 s0 s1 b0 b1 hm (may_cc' hs)
  ·exact exec_30_ok ⟨q0, q1, q2, q3, q4, q5, q6, q7, q8, q9, q10, q11, q12, q13, q14, q15, fk, fc, fz, fs, fo, pc⟩ w dst src base disp imm cc ld d0 d1 s0 s1 b0 b1 hm
  ·exact exec_31_ok ⟨q0, q1, q2, q3, q4, q5, q6, q7, q8, q9, q10, q11, q12, q13, q14, q15, fk, fc, fz, fs, fo, pc⟩ w dst src base disp imm cc ld d0 d1 s0 s1 b0 b1 hm
end Go.Proofs.YtojgmjfcfpclbaaGreat

namespace Go.Proofs.YtojgmjfcfpclbaaGreat
open Go Go.Ev
set_option maxRecDepth 100000
set_option maxHeartbeats 8000000
theorem idxf_n_ok (l : List IrS) (hb : (l.map IrS.d).length ≤ 9223372036854775807) (ho : AllOk l) (hm : badI l = none) : Ret Tryz.prog 72 ([.lst .no 13 (l.map IrS.d), .fn (Fn.func 73) [] []]) (.int .i64 (-1)) := by
 have c0 := @idx_run_n l hb ho hm
 exact (o72 (d := .int .i64 (-1)) [.head ⟨[0, 1, 7, 8], [], []⟩ _ _ _ _ _ _ _ c0] (by kernel_rfl)).to (by simp [wk])
theorem idxf_s_ok (l : List IrS) (hb : (l.map IrS.d).length ≤ 9223372036854775807) (ho : AllOk l) (j : Nat) (hm : badI l = some j) : Ret Tryz.prog 72 ([.lst .no 13 (l.map IrS.d), .fn (Fn.func 73) [] []]) (.int .i64 (j : Int)) := by
 have c0 := @idx_run_s l _ hb ho hm
 exact (o72 (d := .int .i64 (↑j : Int)) [.head ⟨[0, 1, 7, 8], [], []⟩ _ _ _ _ _ _ _ c0] (by kernel_rfl)).to (by simp [wk])
theorem chk_n_ok (l : List IrS) (hb : (l.map IrS.d).length ≤ 9223372036854775807) (ho : AllOk l) (hm : badI l = none) : Ret Tryz.prog 27 ([.lst .no 13 (l.map IrS.d)]) (.tup [.int .i64 0, .int .i64 0]) := by
 have c0 := @idxf_n_ok l hb ho hm
 exact (o27 (d := .tup [.int .i64 0, .int .i64 0]) [.ret _ _ _ c0, tF] (by kernel_rfl)).to (by simp [wk, wkL])
theorem chk_s_ok (l : List IrS) (hb : (l.map IrS.d).length ≤ 9223372036854775807) (ho : AllOk l) (j : Nat) (hm : badI l = some j) : Ret Tryz.prog 27 ([.lst .no 13 (l.map IrS.d)]) (.tup [.int .i64 (j : Int), .int .i64 2]) := by
 have c0 := @idxf_s_ok l hb ho _ hm
 exact (o27 (d := .tup [.int .i64 (↑j : Int), .int .i64 2]) [.ret _ _ _ c0, tT] (by kernel_rfl)).to (by simp [wk, wkL])
end Go.Proofs.YtojgmjfcfpclbaaGreat

namespace Go.Proofs.YtojgmjfcfpclbaaGreat
open Go Go.Ev
theorem exec_c_ok (q0 q1 q2 q3 q4 q5 q6 q7 q8 q9 q10 q11 q12 q13 q14 q15 pc : Int) (fk fc fz fs fo : Bool) (op w dst src base disp imm cc ld : Int) (ho : op ≤ 127) :
  Ret Tryz.prog 8 [.agg [.int .u64 q0, .int .u64 q1, .int .u64 q2, .int .u64 q3, .int .u64 q4, .int .u64 q5, .int .u64 q6, .int .u64 q7, .int .u64 q8, .int .u64 q9, .int .u64 q10, .int .u64 q11, .int .u64 q12, .int .u64 q13, .int .u64 q14, .int .u64 q15, .bool fk, .bool fc, .bool fz, .bool fs, .bool fo, .int .u64 pc], xD op w dst src base disp imm cc, .int .u64 ld]
   (.tup [(execM ⟨q0, q1, q2, q3, q4, q5, q6, q7, q8, q9, q10, q11, q12, q13, q14, q15, fk, fc, fz, fs, fo, pc⟩ ⟨op, w, dst, src, base, disp, imm, cc⟩ ld).d, .int .i64 (execE ⟨q0, q1, q2, q3, q4, q5, q6, q7, q8, q9, q10, q11, q12, q13, q14, q15, fk, fc, fz, fs, fo, pc⟩ ⟨op, w, dst, src, base, disp, imm, cc⟩ ld)]) := exec_s_ok ⟨q0, q1, q2, q3, q4, q5, q6, q7, q8, q9, q10, q11, q12, q13, q14, q15, fk, fc, fz, fs, fo, pc⟩ ⟨op, w, dst, src, base, disp, imm, cc⟩ ld ho
end Go.Proofs.YtojgmjfcfpclbaaGreat

namespace Go.Proofs.YtojgmjfcfpclbaaGreat
open Go Go.Ev
set_option maxRecDepth 100000
set_option maxHeartbeats 8000000
theorem do_end (l tl : List D) (r : RgS) (m : MachS)  : RoundRun Tryz.prog (loopB Tryz.f25 0) ⟨[0, 3, 4, 5, 10], [0, 1, 2], []⟩ 4 [.lst .no 13 l, uu, uu, .ptr false 0 0, .ptr false 1 0, .ptr false 2 0, uu, uu, uu, uu, .lst .tight 13 [], uu, uu, uu, uu, uu, uu, uu, uu, uu, uu, uu, uu, uu, uu, uu, uu, uu, uu, uu, uu, uu, uu, uu, uu, uu, uu, uu, uu, uu, uu, uu, uu, uu, uu, uu, uu, uu, uu, uu, uu, uu, uu, uu, uu, uu, uu, uu, uu, uu, uu, uu, uu, uu, uu, uu, uu, uu, uu, uu, uu, uu, uu, uu, uu, uu, uu, uu, uu, uu, uu, uu, uu, uu, uu] [Ob.box r.c, Ob.box RgS.zero.c, Ob.box m.c, Ob.dead] (Ex.exit (0 : Nat)) [.lst .no 13 l, uu, uu, .ptr false 0 0, .ptr false 1 0, .ptr false 2 0, uu, uu, uu, uu, .lst .tight 13 [], uu, uu, uu, uu, uu, uu, uu, uu, uu, uu, uu, uu, uu, uu, uu, uu, uu, uu, uu, uu, uu, uu, uu, uu, uu, uu, uu, uu, uu, uu, uu, uu, uu, uu, uu, uu, uu, uu, uu, uu, uu, uu, uu, uu, uu, uu, uu, uu, uu, uu, uu, uu, uu, uu, uu, uu, uu, uu, uu, uu, uu, uu, uu, uu, uu, uu, uu, uu, uu, uu, uu, uu, uu, uu] ([Ob.box r.c, Ob.box RgS.zero.c, Ob.box m.c, Ob.dead]) := by
 exact (RoundRun.of_eval (sp := ⟨[0, 3, 4, 5, 10], [0, 1, 2], []⟩) (n0 := 4) (ex := Ex.exit (0 : Nat)) (t' := [.lst .no 13 l, uu, uu, .ptr false 0 0, .ptr false 1 0, .ptr false 2 0, uu, uu, uu, uu, .lst .tight 13 [], uu, uu, uu, uu, uu, uu, uu, uu, uu, uu, uu, uu, uu, uu, uu, uu, uu, uu, uu, uu, uu, uu, uu, uu, uu, uu, uu, uu, uu, uu, uu, uu, uu, uu, uu, uu, uu, uu, uu, uu, uu, uu, uu, uu, uu, uu, uu, uu, uu, uu, uu, uu, uu, uu, uu, uu, uu, uu, uu, uu, uu, uu, uu, uu, uu, uu, uu, uu, uu, uu, uu, uu, uu, uu]) (s' := [Ob.box r.c, Ob.box RgS.zero.c, Ob.box m.c, Ob.dead]) mixed [tF, tF, tF, tF, tF, tF, tF] (by kernel_rfl)).cast (by rfl) (by rfl)
theorem do_stop (l tl : List D) (r : RgS) (m : MachS) (hb : tl.length < 9223372036854775807) (kind op w dst src base disp imm cc reg phys num to : Int) (k0 : -128 ≤ kind) (k1 : kind ≤ 127) (hs : stopsI kind op = true) : RoundRun Tryz.prog (loopB Tryz.f25 0) ⟨[0, 3, 4, 5, 10], [0, 1, 2], []⟩ 4 [.lst .no 13 l, uu, uu, .ptr false 0 0, .ptr false 1 0, .ptr false 2 0, uu, uu, uu, uu, .lst .tight 13 (irD kind op w dst src base disp imm cc reg phys num to :: tl), uu, uu, uu, uu, uu, uu, uu, uu, uu, uu, uu, uu, uu, uu, uu, uu, uu, uu, uu, uu, uu, uu, uu, uu, uu, uu, uu, uu, uu, uu, uu, uu, uu, uu, uu, uu, uu, uu, uu, uu, uu, uu, uu, uu, uu, uu, uu, uu, uu, uu, uu, uu, uu, uu, uu, uu, uu, uu, uu, uu, uu, uu, uu, uu, uu, uu, uu, uu, uu, uu, uu, uu, uu, uu] [Ob.box r.c, Ob.box RgS.zero.c, Ob.box m.c, Ob.dead] (Ex.exit (0 : Nat)) [.lst .no 13 l, uu, uu, .ptr false 0 0, .ptr false 1 0, .ptr false 2 0, uu, uu, uu, uu, .lst .tight 13 ((irD kind op w dst src base disp imm cc reg phys num to) :: tl), uu, uu, uu, uu, uu, uu, uu, uu, uu, uu, uu, uu, uu, uu, uu, uu, uu, uu, uu, uu, uu, uu, uu, uu, uu, uu, uu, uu, uu, uu, uu, uu, uu, uu, uu, uu, uu, uu, uu, uu, uu, uu, uu, uu, uu, uu, uu, uu, uu, uu, uu, uu, uu, uu, uu, uu, uu, uu, uu, uu, uu, uu, uu, uu, uu, uu, uu, uu, uu, uu, uu, uu, uu, uu] ([Ob.box r.c, Ob.box RgS.zero.c, Ob.box m.c, Ob.dead]) := by
 have c0 := @istops_ok kind op w dst src base disp imm cc reg phys num to k0 k1
 exact (RoundRun.of_eval (sp := ⟨[0, 3, 4, 5, 10], [0, 1, 2], []⟩) (n0 := 4) (ex := Ex.exit (0 : Nat)) (t' := [.lst .no 13 l, uu, uu, .ptr false 0 0, .ptr false 1 0, .ptr false 2 0, uu, uu, uu, uu, .lst .tight 13 ((irD kind op w dst src base disp imm cc reg phys num to) :: tl), uu, uu, uu, uu, uu, uu, uu, uu, uu, uu, uu, uu, uu, uu, uu, uu, uu, uu, uu, uu, uu, uu, uu, uu, uu, uu, uu, uu, uu, uu, uu, uu, uu, uu, uu, uu, uu, uu, uu, uu, uu, uu, uu, uu, uu, uu, uu, uu, uu, uu, uu, uu, uu, uu, uu, uu, uu, uu, uu, uu, uu, uu, uu, uu, uu, uu, uu, uu, uu, uu, uu, uu, uu, uu]) (s' := [Ob.box r.c, Ob.box RgS.zero.c, Ob.box m.c, Ob.dead]) mixed [tC (eT (ltL 0 (@len_lt1 ((irD kind op w dst src base disp imm cc reg phys num to)) tl))), tC (eT (ltL 0 (@len_lt1 ((irD kind op w dst src base disp imm cc reg phys num to)) tl))), .get ((irD kind op w dst src base disp imm cc reg phys num to) :: tl) 0 ((irD kind op w dst src base disp imm cc reg phys num to)) rfl, tC (eT (ltL 0 (@len_lt1 ((irD kind op w dst src base disp imm cc reg phys num to)) tl))), tC (eT (ltL 0 (@len_lt1 ((irD kind op w dst src base disp imm cc reg phys num to)) tl))), .ret _ _ _ c0, tC (eT (ltL 0 (@len_lt1 ((irD kind op w dst src base disp imm cc reg phys num to)) tl))), tC (ltL 0 (@len_lt1 ((irD kind op w dst src base disp imm cc reg phys num to)) tl)), tC (nt hs)] (by kernel_rfl)).cast (by rfl) (by rfl)
theorem do_take (l tl : List D) (r : RgS) (m : MachS) (hb : tl.length < 9223372036854775807) (op w dst src base disp imm cc reg phys num to : Int) (g0 : 0 ≤ reg) (g1 : reg ≤ 10) (p0 : 0 ≤ phys) (p1 : phys ≤ 15) : RoundRun Tryz.prog (loopB Tryz.f25 0) ⟨[0, 3, 4, 5, 10], [0, 1, 2], []⟩ 4 [.lst .no 13 l, uu, uu, .ptr false 0 0, .ptr false 1 0, .ptr false 2 0, uu, uu, uu, uu, .lst .tight 13 (irD 1 op w dst src base disp imm cc reg phys num to :: tl), uu, uu, uu, uu, uu, uu, uu, uu, uu, uu, uu, uu, uu, uu, uu, uu, uu, uu, uu, uu, uu, uu, uu, uu, uu, uu, uu, uu, uu, uu, uu, uu, uu, uu, uu, uu, uu, uu, uu, uu, uu, uu, uu, uu, uu, uu, uu, uu, uu, uu, uu, uu, uu, uu, uu, uu, uu, uu, uu, uu, uu, uu, uu, uu, uu, uu, uu, uu, uu, uu, uu, uu, uu, uu] [Ob.box r.c, Ob.box RgS.zero.c, Ob.box m.c, Ob.dead] (Ex.norm) [.lst .no 13 l, uu, uu, .ptr false 0 0, .ptr false 1 0, .ptr false 2 0, uu, uu, uu, uu, .lst .tight 13 tl, uu, uu, uu, uu, uu, uu, uu, uu, uu, uu, uu, uu, uu, uu, uu, uu, uu, uu, uu, uu, uu, uu, uu, uu, uu, uu, uu, uu, uu, uu, uu, uu, uu, uu, uu, uu, uu, uu, uu, uu, uu, uu, uu, uu, uu, uu, uu, uu, uu, uu, uu, uu, uu, uu, uu, uu, uu, uu, uu, uu, uu, uu, uu, uu, uu, uu, uu, uu, uu, uu, uu, uu, uu, uu] ([.box r.c, .box RgS.zero.c, .box (m.put phys (r.get reg)).c, .dead]) := by
 have c0 := @istops_ok 1 op w dst src base disp imm cc reg phys num to (by decide) (by decide)
 exact (RoundRun.of_eval (sp := ⟨[0, 3, 4, 5, 10], [0, 1, 2], []⟩) (n0 := 4) (ex := Ex.norm) (t' := [.lst .no 13 l, uu, uu, .ptr false 0 0, .ptr false 1 0, .ptr false 2 0, uu, uu, uu, uu, .lst .tight 13 (List.drop (Int.toNat 1) (irD 1 op w dst src base disp imm cc reg phys num to :: tl)), uu, uu, uu, uu, uu, uu, uu, uu, uu, uu, uu, uu, uu, uu, uu, uu, uu, uu, uu, uu, uu, uu, uu, uu, uu, uu, uu, uu, uu, uu, uu, uu, uu, uu, uu, uu, uu, uu, uu, uu, uu, uu, uu, uu, uu, uu, uu, uu, uu, uu, uu, uu, uu, uu, uu, uu, uu, uu, uu, uu, uu, uu, uu, uu, uu, uu, uu, uu, uu, uu, uu, uu, uu, uu]) (s' := [Ob.box r.c, Ob.box RgS.zero.c, Ob.box (m.put phys (r.get reg)).c, Ob.dead]) mixed [tC (eT (ltL 0 (@len_lt1 ((irD 1 op w dst src base disp imm cc reg phys num to)) tl))), tC (eT (ltL 0 (@len_lt1 ((irD 1 op w dst src base disp imm cc reg phys num to)) tl))), .get ((irD 1 op w dst src base disp imm cc reg phys num to) :: tl) 0 ((irD 1 op w dst src base disp imm cc reg phys num to)) rfl, tC (eT (ltL 0 (@len_lt1 ((irD 1 op w dst src base disp imm cc reg phys num to)) tl))), tC (eT (ltL 0 (@len_lt1 ((irD 1 op w dst src base disp imm cc reg phys num to)) tl))), .ret _ _ _ c0, tC (eT (ltL 0 (@len_lt1 ((irD 1 op w dst src base disp imm cc reg phys num to)) tl))), tC (ltL 0 (@len_lt1 ((irD 1 op w dst src base disp imm cc reg phys num to)) tl)), tT, .get ((irD 1 op w dst src base disp imm cc reg phys num to) :: tl) 0 ((irD 1 op w dst src base disp imm cc reg phys num to)) rfl, tT, .tst (decide (0 ≤ reg ∧ reg < (↑(11 : Nat) : Int))) true (by (simp only [sl2] at *; omega)), .get _ _ _ (@get_rg r.r0 r.r1 r.r2 r.r3 r.r4 r.r5 r.r6 r.r7 r.r8 r.r9 r.r10 reg ([]) g0 g1), .tst (decide (0 ≤ phys ∧ phys < (↑(16 : Nat) : Int))) true (by (simp only [sl2] at *; omega)), .putA _ _ _ _ (@put_reg m.q0 m.q1 m.q2 m.q3 m.q4 m.q5 m.q6 m.q7 m.q8 m.q9 m.q10 m.q11 m.q12 m.q13 m.q14 m.q15 phys (rg [r.r0, r.r1, r.r2, r.r3, r.r4, r.r5, r.r6, r.r7, r.r8, r.r9, r.r10] reg) ([.bool m.fk, .bool m.fc, .bool m.fz, .bool m.fs, .bool m.fo, .int .u64 m.pc]) p0 p1), tC (v := true) (@len_ge1 (irD 1 op w dst src base disp imm cc reg phys num to) tl)] (by kernel_rfl)).cast (by rfl) (by rfl)
theorem do_give (l tl : List D) (r : RgS) (m : MachS) (hb : tl.length < 9223372036854775807) (op w dst src base disp imm cc reg phys num to : Int) (g0 : 0 ≤ reg) (g1 : reg ≤ 10) (p0 : 0 ≤ phys) (p1 : phys ≤ 15) : RoundRun Tryz.prog (loopB Tryz.f25 0) ⟨[0, 3, 4, 5, 10], [0, 1, 2], []⟩ 4 [.lst .no 13 l, uu, uu, .ptr false 0 0, .ptr false 1 0, .ptr false 2 0, uu, uu, uu, uu, .lst .tight 13 (irD 2 op w dst src base disp imm cc reg phys num to :: tl), uu, uu, uu, uu, uu, uu, uu, uu, uu, uu, uu, uu, uu, uu, uu, uu, uu, uu, uu, uu, uu, uu, uu, uu, uu, uu, uu, uu, uu, uu, uu, uu, uu, uu, uu, uu, uu, uu, uu, uu, uu, uu, uu, uu, uu, uu, uu, uu, uu, uu, uu, uu, uu, uu, uu, uu, uu, uu, uu, uu, uu, uu, uu, uu, uu, uu, uu, uu, uu, uu, uu, uu, uu, uu] [Ob.box r.c, Ob.box RgS.zero.c, Ob.box m.c, Ob.dead] (Ex.norm) [.lst .no 13 l, uu, uu, .ptr false 0 0, .ptr false 1 0, .ptr false 2 0, uu, uu, uu, uu, .lst .tight 13 tl, uu, uu, uu, uu, uu, uu, uu, uu, uu, uu, uu, uu, uu, uu, uu, uu, uu, uu, uu, uu, uu, uu, uu, uu, uu, uu, uu, uu, uu, uu, uu, uu, uu, uu, uu, uu, uu, uu, uu, uu, uu, uu, uu, uu, uu, uu, uu, uu, uu, uu, uu, uu, uu, uu, uu, uu, uu, uu, uu, uu, uu, uu, uu, uu, uu, uu, uu, uu, uu, uu, uu, uu, uu, uu] ([.box (r.put reg (rg m.rl phys)).c, .box RgS.zero.c, .box m.c, .dead]) := by
 have c0 := @istops_ok 2 op w dst src base disp imm cc reg phys num to (by decide) (by decide)
 exact (RoundRun.of_eval (sp := ⟨[0, 3, 4, 5, 10], [0, 1, 2], []⟩) (n0 := 4) (ex := Ex.norm) (t' := [.lst .no 13 l, uu, uu, .ptr false 0 0, .ptr false 1 0, .ptr false 2 0, uu, uu, uu, uu, .lst .tight 13 (List.drop (Int.toNat 1) (irD 2 op w dst src base disp imm cc reg phys num to :: tl)), uu, uu, uu, uu, uu, uu, uu, uu, uu, uu, uu, uu, uu, uu, uu, uu, uu, uu, uu, uu, uu, uu, uu, uu, uu, uu, uu, uu, uu, uu, uu, uu, uu, uu, uu, uu, uu, uu, uu, uu, uu, uu, uu, uu, uu, uu, uu, uu, uu, uu, uu, uu, uu, uu, uu, uu, uu, uu, uu, uu, uu, uu, uu, uu, uu, uu, uu, uu, uu, uu, uu, uu, uu, uu]) (s' := [Ob.box (r.put reg (rg m.rl phys)).c, Ob.box RgS.zero.c, Ob.box m.c, Ob.dead]) mixed [tC (eT (ltL 0 (@len_lt1 ((irD 2 op w dst src base disp imm cc reg phys num to)) tl))), tC (eT (ltL 0 (@len_lt1 ((irD 2 op w dst src base disp imm cc reg phys num to)) tl))), .get ((irD 2 op w dst src base disp imm cc reg phys num to) :: tl) 0 ((irD 2 op w dst src base disp imm cc reg phys num to)) rfl, tC (eT (ltL 0 (@len_lt1 ((irD 2 op w dst src base disp imm cc reg phys num to)) tl))), tC (eT (ltL 0 (@len_lt1 ((irD 2 op w dst src base disp imm cc reg phys num to)) tl))), .ret _ _ _ c0, tC (eT (ltL 0 (@len_lt1 ((irD 2 op w dst src base disp imm cc reg phys num to)) tl))), tC (ltL 0 (@len_lt1 ((irD 2 op w dst src base disp imm cc reg phys num to)) tl)), tT, .get ((irD 2 op w dst src base disp imm cc reg phys num to) :: tl) 0 ((irD 2 op w dst src base disp imm cc reg phys num to)) rfl, tF, tT, .tst (decide (0 ≤ phys ∧ phys < (↑(16 : Nat) : Int))) true (by (simp only [sl2] at *; omega)), .get _ _ _ (@get_reg m.q0 m.q1 m.q2 m.q3 m.q4 m.q5 m.q6 m.q7 m.q8 m.q9 m.q10 m.q11 m.q12 m.q13 m.q14 m.q15 phys ([.bool m.fk, .bool m.fc, .bool m.fz, .bool m.fs, .bool m.fo, .int .u64 m.pc]) p0 p1), .tst (decide (0 ≤ reg ∧ reg < (↑(11 : Nat) : Int))) true (by (simp only [sl2] at *; omega)), .putA _ _ _ _ (@put_rg r.r0 r.r1 r.r2 r.r3 r.r4 r.r5 r.r6 r.r7 r.r8 r.r9 r.r10 reg (rg [m.q0, m.q1, m.q2, m.q3, m.q4, m.q5, m.q6, m.q7, m.q8, m.q9, m.q10, m.q11, m.q12, m.q13, m.q14, m.q15] phys) ([]) g0 g1), tC (v := true) (@len_ge1 (irD 2 op w dst src base disp imm cc reg phys num to) tl)] (by kernel_rfl)).cast (by rfl) (by rfl)
theorem do_x (l tl : List D) (r : RgS) (m : MachS) (hb : tl.length < 9223372036854775807) (op w dst src base disp imm cc reg phys num to : Int) (ho : op ≤ 127) (hs : stopsI 0 op = false) (he : ((execE m ⟨op, w, dst, src, base, disp, imm, cc⟩ 0) == 0) = true) : RoundRun Tryz.prog (loopB Tryz.f25 0) ⟨[0, 3, 4, 5, 10], [0, 1, 2], []⟩ 4 [.lst .no 13 l, uu, uu, .ptr false 0 0, .ptr false 1 0, .ptr false 2 0, uu, uu, uu, uu, .lst .tight 13 (irD 0 op w dst src base disp imm cc reg phys num to :: tl), uu, uu, uu, uu, uu, uu, uu, uu, uu, uu, uu, uu, uu, uu, uu, uu, uu, uu, uu, uu, uu, uu, uu, uu, uu, uu, uu, uu, uu, uu, uu, uu, uu, uu, uu, uu, uu, uu, uu, uu, uu, uu, uu, uu, uu, uu, uu, uu, uu, uu, uu, uu, uu, uu, uu, uu, uu, uu, uu, uu, uu, uu, uu, uu, uu, uu, uu, uu, uu, uu, uu, uu, uu, uu] [Ob.box r.c, Ob.box RgS.zero.c, Ob.box m.c, Ob.dead] (Ex.norm) [.lst .no 13 l, uu, uu, .ptr false 0 0, .ptr false 1 0, .ptr false 2 0, uu, uu, uu, uu, .lst .tight 13 tl, uu, uu, uu, uu, uu, uu, uu, uu, uu, uu, uu, uu, uu, uu, uu, uu, uu, uu, uu, uu, uu, uu, uu, uu, uu, uu, uu, uu, uu, uu, uu, uu, uu, uu, uu, uu, uu, uu, uu, uu, uu, uu, uu, uu, uu, uu, uu, uu, uu, uu, uu, uu, uu, uu, uu, uu, uu, uu, uu, uu, uu, uu, uu, uu, uu, uu, uu, uu, uu, uu, uu, uu, uu, uu] ([.box r.c, .box RgS.zero.c, .box ((execM m ⟨op, w, dst, src, base, disp, imm, cc⟩ 0).at 0).c, .dead]) := by
 have c0 := @istops_ok 0 op w dst src base disp imm cc reg phys num to (by decide) (by decide)
 have c1 := @exec_c_ok m.q0 m.q1 m.q2 m.q3 m.q4 m.q5 m.q6 m.q7 m.q8 m.q9 m.q10 m.q11 m.q12 m.q13 m.q14 m.q15 m.pc m.fk m.fc m.fz m.fs m.fo op w dst src base disp imm cc 0 ho
 exact (RoundRun.of_eval (sp := ⟨[0, 3, 4, 5, 10], [0, 1, 2], []⟩) (n0 := 4) (ex := Ex.norm) (t' := [.lst .no 13 l, uu, uu, .ptr false 0 0, .ptr false 1 0, .ptr false 2 0, uu, uu, uu, uu, .lst .tight 13 (List.drop (Int.toNat 1) (irD 0 op w dst src base disp imm cc reg phys num to :: tl)), uu, uu, uu, uu, uu, uu, uu, uu, uu, uu, uu, uu, uu, uu, uu, uu, uu, uu, uu, uu, uu, uu, uu, uu, uu, uu, uu, uu, uu, uu, uu, uu, uu, uu, uu, uu, uu, uu, uu, uu, uu, uu, uu, uu, uu, uu, uu, uu, uu, uu, uu, uu, uu, uu, uu, uu, uu, uu, uu, uu, uu, uu, uu, uu, uu, uu, uu, uu, uu, uu, uu, uu, uu, uu]) (s' := [Ob.box r.c, Ob.box RgS.zero.c, Ob.box ((execM m ⟨op, w, dst, src, base, disp, imm, cc⟩ 0).at 0).c, Ob.dead]) mixed [tC (eT (ltL 0 (@len_lt1 ((irD 0 op w dst src base disp imm cc reg phys num to)) tl))), tC (eT (ltL 0 (@len_lt1 ((irD 0 op w dst src base disp imm cc reg phys num to)) tl))), .get ((irD 0 op w dst src base disp imm cc reg phys num to) :: tl) 0 ((irD 0 op w dst src base disp imm cc reg phys num to)) rfl, tC (eT (ltL 0 (@len_lt1 ((irD 0 op w dst src base disp imm cc reg phys num to)) tl))), tC (eT (ltL 0 (@len_lt1 ((irD 0 op w dst src base disp imm cc reg phys num to)) tl))), .ret _ _ _ c0, tC (eT (ltL 0 (@len_lt1 ((irD 0 op w dst src base disp imm cc reg phys num to)) tl))), tC (ltL 0 (@len_lt1 ((irD 0 op w dst src base disp imm cc reg phys num to)) tl)), tC (nt hs), .get ((irD 0 op w dst src base disp imm cc reg phys num to) :: tl) 0 ((irD 0 op w dst src base disp imm cc reg phys num to)) rfl, tF, tF, .ret _ _ _ c1, tC (nt (eqI 0 true (eq_of_beq he))), tC (v := true) (@len_ge1 (irD 0 op w dst src base disp imm cc reg phys num to) tl)] (by kernel_rfl)).cast (by rfl) (by rfl)
theorem do_xe (l tl : List D) (r : RgS) (m : MachS) (hb : tl.length < 9223372036854775807) (op w dst src base disp imm cc reg phys num to : Int) (ho : op ≤ 127) (hs : stopsI 0 op = false) (he : ((execE m ⟨op, w, dst, src, base, disp, imm, cc⟩ 0) == 0) = false) : RoundRun Tryz.prog (loopB Tryz.f25 0) ⟨[4, 5, 6, 7], [1, 2], []⟩ 4 [.lst .no 13 l, uu, uu, .ptr false 0 0, .ptr false 1 0, .ptr false 2 0, uu, uu, uu, uu, .lst .tight 13 (irD 0 op w dst src base disp imm cc reg phys num to :: tl), uu, uu, uu, uu, uu, uu, uu, uu, uu, uu, uu, uu, uu, uu, uu, uu, uu, uu, uu, uu, uu, uu, uu, uu, uu, uu, uu, uu, uu, uu, uu, uu, uu, uu, uu, uu, uu, uu, uu, uu, uu, uu, uu, uu, uu, uu, uu, uu, uu, uu, uu, uu, uu, uu, uu, uu, uu, uu, uu, uu, uu, uu, uu, uu, uu, uu, uu, uu, uu, uu, uu, uu, uu, uu] [Ob.box r.c, Ob.box RgS.zero.c, Ob.box m.c, Ob.dead] (Ex.ret) [uu, uu, uu, uu, .ptr false 1 0, .ptr false 2 0, .int .i64 0, .int .i64 (execE m ⟨op, w, dst, src, base, disp, imm, cc⟩ 0), uu, uu, uu, uu, uu, uu, uu, uu, uu, uu, uu, uu, uu, uu, uu, uu, uu, uu, uu, uu, uu, uu, uu, uu, uu, uu, uu, uu, uu, uu, uu, uu, uu, uu, uu, uu, uu, uu, uu, uu, uu, uu, uu, uu, uu, uu, uu, uu, uu, uu, uu, uu, uu, uu, uu, uu, uu, uu, uu, uu, uu, uu, uu, uu, uu, uu, uu, uu, uu, uu, uu, uu, uu, uu, uu, uu, uu] ([Ob.dead, Ob.box RgS.zero.c, Ob.box MachS.zero.c, Ob.dead]) := by
 have c0 := @istops_ok 0 op w dst src base disp imm cc reg phys num to (by decide) (by decide)
 have c1 := @exec_c_ok m.q0 m.q1 m.q2 m.q3 m.q4 m.q5 m.q6 m.q7 m.q8 m.q9 m.q10 m.q11 m.q12 m.q13 m.q14 m.q15 m.pc m.fk m.fc m.fz m.fs m.fo op w dst src base disp imm cc 0 ho
 exact (RoundRun.of_eval (sp := ⟨[4, 5, 6, 7], [1, 2], []⟩) (n0 := 4) (ex := Ex.ret) (t' := [uu, uu, uu, uu, .ptr false 1 0, .ptr false 2 0, .int .i64 0, .int .i64 (execE m ⟨op, w, dst, src, base, disp, imm, cc⟩ 0), uu, uu, uu, uu, uu, uu, uu, uu, uu, uu, uu, uu, uu, uu, uu, uu, uu, uu, uu, uu, uu, uu, uu, uu, uu, uu, uu, uu, uu, uu, uu, uu, uu, uu, uu, uu, uu, uu, uu, uu, uu, uu, uu, uu, uu, uu, uu, uu, uu, uu, uu, uu, uu, uu, uu, uu, uu, uu, uu, uu, uu, uu, uu, uu, uu, uu, uu, uu, uu, uu, uu, uu, uu, uu, uu, uu, uu]) (s' := [Ob.dead, Ob.box RgS.zero.c, Ob.box MachS.zero.c, Ob.dead]) mixed [tC (eT (ltL 0 (@len_lt1 ((irD 0 op w dst src base disp imm cc reg phys num to)) tl))), tC (eT (ltL 0 (@len_lt1 ((irD 0 op w dst src base disp imm cc reg phys num to)) tl))), .get ((irD 0 op w dst src base disp imm cc reg phys num to) :: tl) 0 ((irD 0 op w dst src base disp imm cc reg phys num to)) rfl, tC (eT (ltL 0 (@len_lt1 ((irD 0 op w dst src base disp imm cc reg phys num to)) tl))), tC (eT (ltL 0 (@len_lt1 ((irD 0 op w dst src base disp imm cc reg phys num to)) tl))), .ret _ _ _ c0, tC (eT (ltL 0 (@len_lt1 ((irD 0 op w dst src base disp imm cc reg phys num to)) tl))), tC (ltL 0 (@len_lt1 ((irD 0 op w dst src base disp imm cc reg phys num to)) tl)), tC (nt hs), .get ((irD 0 op w dst src base disp imm cc reg phys num to) :: tl) 0 ((irD 0 op w dst src base disp imm cc reg phys num to)) rfl, tF, tF, .ret _ _ _ c1, tC (nt he)] (by kernel_rfl)).cast (by rfl) (by rfl)
end Go.Proofs.YtojgmjfcfpclbaaGreat

namespace Go.Proofs.YtojgmjfcfpclbaaGreat
open Go Go.Ev
set_option maxRecDepth 100000
theorem do_rounds_ok (L0 : List D) : ∀ (l : List IrS) (r : RgS) (m : MachS), l.length ≤ 9223372036854775807 → AllOk l → (∀ s ∈ l, s.may = true) → (runI l r m).2.2.2 = 0 →
  Rounds Tryz.prog (loopB Tryz.f25 0) 4 [.lst .no 13 L0, uu, uu, .ptr false 0 0, .ptr false 1 0, .ptr false 2 0, uu, uu, uu, uu, .lst .tight 13 (l.map IrS.d), uu, uu, uu, uu, uu, uu, uu, uu, uu, uu, uu, uu, uu, uu, uu, uu, uu, uu, uu, uu, uu, uu, uu, uu, uu, uu, uu, uu, uu, uu, uu, uu, uu, uu, uu, uu, uu, uu, uu, uu, uu, uu, uu, uu, uu, uu, uu, uu, uu, uu, uu, uu, uu, uu, uu, uu, uu, uu, uu, uu, uu, uu, uu, uu, uu, uu, uu, uu, uu, uu, uu, uu, uu, uu] [.box r.c, .box [.int .u64 0, .int .u64 0, .int .u64 0, .int .u64 0, .int .u64 0, .int .u64 0, .int .u64 0, .int .u64 0, .int .u64 0, .int .u64 0, .int .u64 0], .box m.c, .dead] (.exit 0) [.lst .no 13 L0, uu, uu, .ptr false 0 0, .ptr false 1 0, .ptr false 2 0, uu, uu, uu, uu, .lst .tight 13 ((restI l r m).map IrS.d), uu, uu, uu, uu, uu, uu, uu, uu, uu, uu, uu, uu, uu, uu, uu, uu, uu, uu, uu, uu, uu, uu, uu, uu, uu, uu, uu, uu, uu, uu, uu, uu, uu, uu, uu, uu, uu, uu, uu, uu, uu, uu, uu, uu, uu, uu, uu, uu, uu, uu, uu, uu, uu, uu, uu, uu, uu, uu, uu, uu, uu, uu, uu, uu, uu, uu, uu, uu, uu, uu, uu, uu, uu, uu] [.box (runI l r m).1.c, .box [.int .u64 0, .int .u64 0, .int .u64 0, .int .u64 0, .int .u64 0, .int .u64 0, .int .u64 0, .int .u64 0, .int .u64 0, .int .u64 0, .int .u64 0], .box (runI l r m).2.1.c, .dead]
 | [], r, m, _, _, _, _ => Rounds.last (do_end L0 [] r m) (by simp)
 | s :: t, r, m, hl, ho, hm, he => by
  have hm' := fun s' hs' => hm s' (List.mem_cons_of_mem _ hs')
  have ho' : AllOk t := fun s' hs' => ho s' (List.mem_cons_of_mem _ hs')
  have hl' : (t.map IrS.d).length < 9223372036854775807 := by simp only [List.length_cons] at hl; simp; omega
  obtain ⟨a0, a1, hop, hc, hp, g0, g1⟩ := ho s (List.mem_cons_self ..)
  cases hs : s.stops
  ·by_cases h1 : s.kind = 1
   ·have e := runI_take (t := t) (r := r) (m := m) h1
    rw [restI_cons e, e]
    rw [e] at he
    obtain ⟨b0, b1, hsc⟩ := may_reg (hm s (List.mem_cons_self ..)) (.inl h1)
    have hsc' : 0 ≤ s.phys ∧ s.phys ≤ 15 := by simp only [scrM, decide_eq_true_eq] at hsc; omega
    obtain ⟨kind, op, w, dst, src, base, disp, imm, cc, reg, phys, num, to⟩ := s
    obtain rfl : kind = 1 := h1
    exact Rounds.more (do_take L0 (t.map IrS.d) r m hl' op w dst src base disp imm cc reg phys num to b0 b1 hsc'.1 hsc'.2) (do_rounds_ok L0 t r _ (by simp only [List.length_cons] at hl; omega) ho' hm' he)
   ·by_cases h2 : s.kind = 2
    ·have e := runI_give (t := t) (r := r) (m := m) h2
     rw [restI_cons e, e]
     rw [e] at he
     obtain ⟨b0, b1, hsc⟩ := may_reg (hm s (List.mem_cons_self ..)) (.inr h2)
     have hsc' : 0 ≤ s.phys ∧ s.phys ≤ 15 := by simp only [scrM, decide_eq_true_eq] at hsc; omega
     obtain ⟨kind, op, w, dst, src, base, disp, imm, cc, reg, phys, num, to⟩ := s
     obtain rfl : kind = 2 := h2
     exact Rounds.more (do_give L0 (t.map IrS.d) r m hl' op w dst src base disp imm cc reg phys num to b0 b1 hsc'.1 hsc'.2) (do_rounds_ok L0 t _ m (by simp only [List.length_cons] at hl; omega) ho' hm' he)
    ·have h0 := may_kind0 (hm s (List.mem_cons_self ..)) hs h1 h2
     by_cases hx : (execS m s.x 0).2 = 0
     ·have e := runI_x (t := t) (r := r) (m := m) hs h1 h2 hx
      rw [restI_cons e, e]
      rw [e] at he
      obtain ⟨kind, op, w, dst, src, base, disp, imm, cc, reg, phys, num, to⟩ := s
      obtain rfl : kind = 0 := h0
      exact Rounds.more (do_x L0 (t.map IrS.d) r m hl' op w dst src base disp imm cc reg phys num to hop hs (beq_iff_eq.mpr hx)) (do_rounds_ok L0 t r _ (by simp only [List.length_cons] at hl; omega) ho' hm' he)
     ·rw [runI_xe hs h1 h2 hx] at he
      exact absurd he hx
  ·rw [restI_stop hs, runI_stop hs]
   obtain ⟨kind, op, w, dst, src, base, disp, imm, cc, reg, phys, num, to⟩ := s
   exact Rounds.last (do_stop L0 (t.map IrS.d) r m hl' kind op w dst src base disp imm cc reg phys num to a0 a1 hs) (by simp)
theorem do_rounds_err (L0 : List D) : ∀ (l : List IrS) (r : RgS) (m : MachS), l.length ≤ 9223372036854775807 → AllOk l → (∀ s ∈ l, s.may = true) → (runI l r m).2.2.2 ≠ 0 →
  Rounds Tryz.prog (loopB Tryz.f25 0) 4 [.lst .no 13 L0, uu, uu, .ptr false 0 0, .ptr false 1 0, .ptr false 2 0, uu, uu, uu, uu, .lst .tight 13 (l.map IrS.d), uu, uu, uu, uu, uu, uu, uu, uu, uu, uu, uu, uu, uu, uu, uu, uu, uu, uu, uu, uu, uu, uu, uu, uu, uu, uu, uu, uu, uu, uu, uu, uu, uu, uu, uu, uu, uu, uu, uu, uu, uu, uu, uu, uu, uu, uu, uu, uu, uu, uu, uu, uu, uu, uu, uu, uu, uu, uu, uu, uu, uu, uu, uu, uu, uu, uu, uu, uu, uu, uu, uu, uu, uu, uu] [.box r.c, .box [.int .u64 0, .int .u64 0, .int .u64 0, .int .u64 0, .int .u64 0, .int .u64 0, .int .u64 0, .int .u64 0, .int .u64 0, .int .u64 0, .int .u64 0], .box m.c, .dead] .ret [uu, uu, uu, uu, .ptr false 1 0, .ptr false 2 0, .int .i64 0, .int .i64 (runI l r m).2.2.2, uu, uu, uu, uu, uu, uu, uu, uu, uu, uu, uu, uu, uu, uu, uu, uu, uu, uu, uu, uu, uu, uu, uu, uu, uu, uu, uu, uu, uu, uu, uu, uu, uu, uu, uu, uu, uu, uu, uu, uu, uu, uu, uu, uu, uu, uu, uu, uu, uu, uu, uu, uu, uu, uu, uu, uu, uu, uu, uu, uu, uu, uu, uu, uu, uu, uu, uu, uu, uu, uu, uu, uu, uu, uu, uu, uu, uu] [.dead, .box [.int .u64 0, .int .u64 0, .int .u64 0, .int .u64 0, .int .u64 0, .int .u64 0, .int .u64 0, .int .u64 0, .int .u64 0, .int .u64 0, .int .u64 0], .box MachS.zero.c, .dead]
 | [], r, m, _, _, _, he => absurd rfl he
 | s :: t, r, m, hl, ho, hm, he => by
  have hm' := fun s' hs' => hm s' (List.mem_cons_of_mem _ hs')
  have ho' : AllOk t := fun s' hs' => ho s' (List.mem_cons_of_mem _ hs')
  have hl' : (t.map IrS.d).length < 9223372036854775807 := by simp only [List.length_cons] at hl; simp; omega
  obtain ⟨a0, a1, hop, hc, hp, g0, g1⟩ := ho s (List.mem_cons_self ..)
  cases hs : s.stops
  ·by_cases h1 : s.kind = 1
   ·have e := runI_take (t := t) (r := r) (m := m) h1
    rw [e]
    rw [e] at he
    obtain ⟨b0, b1, hsc⟩ := may_reg (hm s (List.mem_cons_self ..)) (.inl h1)
    have hsc' : 0 ≤ s.phys ∧ s.phys ≤ 15 := by simp only [scrM, decide_eq_true_eq] at hsc; omega
    obtain ⟨kind, op, w, dst, src, base, disp, imm, cc, reg, phys, num, to⟩ := s
    obtain rfl : kind = 1 := h1
    exact Rounds.more (do_take L0 (t.map IrS.d) r m hl' op w dst src base disp imm cc reg phys num to b0 b1 hsc'.1 hsc'.2) (do_rounds_err L0 t r _ (by simp only [List.length_cons] at hl; omega) ho' hm' he)
   ·by_cases h2 : s.kind = 2
    ·have e := runI_give (t := t) (r := r) (m := m) h2
     rw [e]
     rw [e] at he
     obtain ⟨b0, b1, hsc⟩ := may_reg (hm s (List.mem_cons_self ..)) (.inr h2)
     have hsc' : 0 ≤ s.phys ∧ s.phys ≤ 15 := by simp only [scrM, decide_eq_true_eq] at hsc; omega
     obtain ⟨kind, op, w, dst, src, base, disp, imm, cc, reg, phys, num, to⟩ := s
     obtain rfl : kind = 2 := h2
     exact Rounds.more (do_give L0 (t.map IrS.d) r m hl' op w dst src base disp imm cc reg phys num to b0 b1 hsc'.1 hsc'.2) (do_rounds_err L0 t _ m (by simp only [List.length_cons] at hl; omega) ho' hm' he)
    ·have h0 := may_kind0 (hm s (List.mem_cons_self ..)) hs h1 h2
     by_cases hx : (execS m s.x 0).2 = 0
     ·have e := runI_x (t := t) (r := r) (m := m) hs h1 h2 hx
      rw [e]
      rw [e] at he
      obtain ⟨kind, op, w, dst, src, base, disp, imm, cc, reg, phys, num, to⟩ := s
      obtain rfl : kind = 0 := h0
      exact Rounds.more (do_x L0 (t.map IrS.d) r m hl' op w dst src base disp imm cc reg phys num to hop hs (beq_iff_eq.mpr hx)) (do_rounds_err L0 t r _ (by simp only [List.length_cons] at hl; omega) ho' hm' he)
     ·rw [runI_xe hs h1 h2 hx]
      obtain ⟨kind, op, w, dst, src, base, disp, imm, cc, reg, phys, num, to⟩ := s
      obtain rfl : kind = 0 := h0
      exact Rounds.last (do_xe L0 (t.map IrS.d) r m hl' op w dst src base disp imm cc reg phys num to hop hs (beq_eq_false_iff_ne.mpr hx)) (by simp)
  ·rw [runI_stop hs] at he
   exact absurd rfl he
section
variable (l : List IrS) (r0 r1 r2 r3 r4 r5 r6 r7 r8 r9 r10 : Int) (hb : (l.map IrS.d).length ≤ 9223372036854775807) (ho : AllOk l) (hm : badI l = none)
theorem may_all {l : List IrS} (hm : badI l = none) : ∀ s ∈ l, s.may = true := by
 unfold badI at hm
 rw [List.findIdx?_eq_none_iff] at hm
 intro s hs
 simpa using hm s hs
theorem do_run_ok (hb : (l.map IrS.d).length ≤ 9223372036854775807) (ho : AllOk l) (hm : badI l = none) (he : ((runI l ⟨r0, r1, r2, r3, r4, r5, r6, r7, r8, r9, r10⟩ .zero).2.2.2 == 0) = true) :
  LoopRun Tryz.prog 4 (.loop (loopB Tryz.f25 0)) [.lst .no 13 (List.map IrS.d l), uu, uu, .ptr false 0 0, .ptr false 1 0, .ptr false 2 0, uu, uu, uu, uu, .lst .tight 13 (List.take (Int.toNat ((List.map IrS.d l).length : Int)) (List.map IrS.d l)), uu, uu, uu, uu, uu, uu, uu, uu, uu, uu, uu, uu, uu, uu, uu, uu, uu, uu, uu, uu, uu, uu, uu, uu, uu, uu, uu, uu, uu, uu, uu, uu, uu, uu, uu, uu, uu, uu, uu, uu, uu, uu, uu, uu, uu, uu, uu, uu, uu, uu, uu, uu, uu, uu, uu, uu, uu, uu, uu, uu, uu, uu, uu, uu, uu, uu, uu, uu, uu, uu, uu, uu, uu, uu] [.box [.int .u64 r0, .int .u64 r1, .int .u64 r2, .int .u64 r3, .int .u64 r4, .int .u64 r5, .int .u64 r6, .int .u64 r7, .int .u64 r8, .int .u64 r9, .int .u64 r10], .box [.int .u64 0, .int .u64 0, .int .u64 0, .int .u64 0, .int .u64 0, .int .u64 0, .int .u64 0, .int .u64 0, .int .u64 0, .int .u64 0, .int .u64 0], .box [.int .u64 0, .int .u64 0, .int .u64 0, .int .u64 0, .int .u64 0, .int .u64 0, .int .u64 0, .int .u64 0, .int .u64 0, .int .u64 0, .int .u64 0, .int .u64 0, .int .u64 0, .int .u64 0, .int .u64 0, .int .u64 0, .bool false, .bool false, .bool false, .bool false, .bool false, .int .u64 0], .dead] (.exit 0) [.lst .no 13 (List.map IrS.d l), uu, uu, .ptr false 0 0, .ptr false 1 0, .ptr false 2 0, uu, uu, uu, uu, .lst .tight 13 ((restI l ⟨r0, r1, r2, r3, r4, r5, r6, r7, r8, r9, r10⟩ .zero).map IrS.d), uu, uu, uu, uu, uu, uu, uu, uu, uu, uu, uu, uu, uu, uu, uu, uu, uu, uu, uu, uu, uu, uu, uu, uu, uu, uu, uu, uu, uu, uu, uu, uu, uu, uu, uu, uu, uu, uu, uu, uu, uu, uu, uu, uu, uu, uu, uu, uu, uu, uu, uu, uu, uu, uu, uu, uu, uu, uu, uu, uu, uu, uu, uu, uu, uu, uu, uu, uu, uu, uu, uu, uu, uu, uu] [.box (runI l ⟨r0, r1, r2, r3, r4, r5, r6, r7, r8, r9, r10⟩ .zero).1.c, .box [.int .u64 0, .int .u64 0, .int .u64 0, .int .u64 0, .int .u64 0, .int .u64 0, .int .u64 0, .int .u64 0, .int .u64 0, .int .u64 0, .int .u64 0], .box (runI l ⟨r0, r1, r2, r3, r4, r5, r6, r7, r8, r9, r10⟩ .zero).2.1.c, .dead] := by
 have hb' : l.length ≤ 9223372036854775807 := by simpa using hb
 rw [show List.take (Int.toNat ((List.map IrS.d l).length : Int)) (List.map IrS.d l) = List.map IrS.d l by rw [Int.toNat_natCast, List.take_length]]
 exact LoopRun.of_rounds (Nat.le_refl 4) (do_rounds_ok (List.map IrS.d l) l ⟨r0, r1, r2, r3, r4, r5, r6, r7, r8, r9, r10⟩ .zero hb' ho (may_all hm) (beq_iff_eq.mp he))
theorem do_run_err (hb : (l.map IrS.d).length ≤ 9223372036854775807) (ho : AllOk l) (hm : badI l = none) (he : ((runI l ⟨r0, r1, r2, r3, r4, r5, r6, r7, r8, r9, r10⟩ .zero).2.2.2 == 0) = false) :
  LoopRun Tryz.prog 4 (.loop (loopB Tryz.f25 0)) [.lst .no 13 (List.map IrS.d l), uu, uu, .ptr false 0 0, .ptr false 1 0, .ptr false 2 0, uu, uu, uu, uu, .lst .tight 13 (List.take (Int.toNat ((List.map IrS.d l).length : Int)) (List.map IrS.d l)), uu, uu, uu, uu, uu, uu, uu, uu, uu, uu, uu, uu, uu, uu, uu, uu, uu, uu, uu, uu, uu, uu, uu, uu, uu, uu, uu, uu, uu, uu, uu, uu, uu, uu, uu, uu, uu, uu, uu, uu, uu, uu, uu, uu, uu, uu, uu, uu, uu, uu, uu, uu, uu, uu, uu, uu, uu, uu, uu, uu, uu, uu, uu, uu, uu, uu, uu, uu, uu, uu, uu, uu, uu, uu] [.box [.int .u64 r0, .int .u64 r1, .int .u64 r2, .int .u64 r3, .int .u64 r4, .int .u64 r5, .int .u64 r6, .int .u64 r7, .int .u64 r8, .int .u64 r9, .int .u64 r10], .box [.int .u64 0, .int .u64 0, .int .u64 0, .int .u64 0, .int .u64 0, .int .u64 0, .int .u64 0, .int .u64 0, .int .u64 0, .int .u64 0, .int .u64 0], .box [.int .u64 0, .int .u64 0, .int .u64 0, .int .u64 0, .int .u64 0, .int .u64 0, .int .u64 0, .int .u64 0, .int .u64 0, .int .u64 0, .int .u64 0, .int .u64 0, .int .u64 0, .int .u64 0, .int .u64 0, .int .u64 0, .bool false, .bool false, .bool false, .bool false, .bool false, .int .u64 0], .dead] .ret [uu, uu, uu, uu, .ptr false 1 0, .ptr false 2 0, .int .i64 0, .int .i64 (runI l ⟨r0, r1, r2, r3, r4, r5, r6, r7, r8, r9, r10⟩ .zero).2.2.2, uu, uu, uu, uu, uu, uu, uu, uu, uu, uu, uu, uu, uu, uu, uu, uu, uu, uu, uu, uu, uu, uu, uu, uu, uu, uu, uu, uu, uu, uu, uu, uu, uu, uu, uu, uu, uu, uu, uu, uu, uu, uu, uu, uu, uu, uu, uu, uu, uu, uu, uu, uu, uu, uu, uu, uu, uu, uu, uu, uu, uu, uu, uu, uu, uu, uu, uu, uu, uu, uu, uu, uu, uu, uu, uu, uu, uu] [.dead, .box [.int .u64 0, .int .u64 0, .int .u64 0, .int .u64 0, .int .u64 0, .int .u64 0, .int .u64 0, .int .u64 0, .int .u64 0, .int .u64 0, .int .u64 0], .box MachS.zero.c, .dead] := by
 have hb' : l.length ≤ 9223372036854775807 := by simpa using hb
 rw [show List.take (Int.toNat ((List.map IrS.d l).length : Int)) (List.map IrS.d l) = List.map IrS.d l by rw [Int.toNat_natCast, List.take_length]]
 exact LoopRun.of_rounds (Nat.le_refl 4) (do_rounds_err (List.map IrS.d l) l ⟨r0, r1, r2, r3, r4, r5, r6, r7, r8, r9, r10⟩ .zero hb' ho (may_all hm) (beq_eq_false_iff_ne.mp he))
end
end Go.Proofs.YtojgmjfcfpclbaaGreat

namespace Go.Proofs.YtojgmjfcfpclbaaGreat
open Go Go.Ev
set_option maxRecDepth 100000
set_option maxHeartbeats 8000000
theorem do_ok_ok (l : List IrS) (r : RgS) (hb : (l.map IrS.d).length ≤ 9223372036854775807) (ho : AllOk l) (hm : badI l = none) (he : ((runI l r .zero).2.2.2 == 0) = true) : Ret Tryz.prog 25 ([.lst .no 13 (l.map IrS.d), .agg r.c]) (.tup [(runI l r .zero).1.d, (runI l r .zero).2.1.d, .int .i64 (IntKind.i64.wrap (((l.map IrS.d).length : Int) - (((restI l r .zero).map IrS.d).length : Int))), .int .i64 0]) := by
 have c0 := @chk_n_ok l hb ho hm
 have c1 := @do_run_ok l r.r0 r.r1 r.r2 r.r3 r.r4 r.r5 r.r6 r.r7 r.r8 r.r9 r.r10 hb ho hm (eqI 0 true (eq_of_beq he))
 generalize g3 : List.map IrS.d l = r2 at c1
 generalize g5 : List.map IrS.d (restI l r MachS.zero) = r4 at c1
 exact (o25 (d := .tup [.agg (Prod.fst (runI l r MachS.zero)).c, .agg (Prod.fst (Prod.snd (runI l r MachS.zero))).c, .int .i64 (IntKind.wrap IntKind.i64 ((↑(List.length r2) : Int) - (↑(List.length r4) : Int))), .int .i64 0]) [.ret _ _ _ c0, tF, tC (v := true) (@sl3 (List.length (List.map IrS.d l))), .head ⟨[0, 3, 4, 5, 10], [0, 1, 2], []⟩ _ _ _ _ _ _ _ c1] (by kernel_rfl)).to (by subst_vars; simp only [wk, wkL, and_true, RgS.d, RgS.c, MachS.d, MachS.c])
theorem do_err_ok (l : List IrS) (r : RgS) (hb : (l.map IrS.d).length ≤ 9223372036854775807) (ho : AllOk l) (hm : badI l = none) (he : ((runI l r .zero).2.2.2 == 0) = false) : Ret Tryz.prog 25 ([.lst .no 13 (l.map IrS.d), .agg r.c]) (.tup [RgS.zero.d, MachS.zero.d, .int .i64 0, .int .i64 (runI l r .zero).2.2.2]) := by
 have c0 := @chk_n_ok l hb ho hm
 have c1 := @do_run_err l r.r0 r.r1 r.r2 r.r3 r.r4 r.r5 r.r6 r.r7 r.r8 r.r9 r.r10 hb ho hm he
 generalize g3 : Prod.snd (Prod.snd (Prod.snd (runI l r MachS.zero))) = r2 at c1
 exact (o25 (d := .tup [.agg RgS.zero.c, .agg MachS.zero.c, .int .i64 0, .int .i64 r2]) [.ret _ _ _ c0, tF, tC (v := true) (@sl3 (List.length (List.map IrS.d l))), .head ⟨[0, 3, 4, 5, 10], [0, 1, 2], []⟩ _ _ _ _ _ _ _ c1] (by kernel_rfl)).to (by simp [wk, wkL, RgS.zero, RgS.d, RgS.c, MachS.zero, MachS.d, MachS.c])
theorem do_bad_ok (l : List IrS) (r : RgS) (hb : (l.map IrS.d).length ≤ 9223372036854775807) (ho : AllOk l) (j : Nat) (hm : badI l = some j) : Ret Tryz.prog 25 ([.lst .no 13 (l.map IrS.d), .agg r.c]) (.tup [RgS.zero.d, MachS.zero.d, .int .i64 0, .int .i64 2]) := by
 have c0 := @chk_s_ok l hb ho _ hm
 exact (o25 (d := .tup [.agg RgS.zero.c, .agg MachS.zero.c, .int .i64 0, .int .i64 2]) [.ret _ _ _ c0, tT] (by kernel_rfl)).to (by simp [wk, wkL, RgS.zero, RgS.d, RgS.c, MachS.zero, MachS.d, MachS.c])
end Go.Proofs.YtojgmjfcfpclbaaGreat

namespace Go.Proofs.YtojgmjfcfpclbaaGreat
open Go Go.Ev
set_option maxRecDepth 100000
theorem ido_ok (l : List IrS) (r : RgS) (hb : l.length ≤ 9223372036854775807) (ho : AllOk l) :
  Ret Tryz.prog 25 [.lst .no 13 (l.map IrS.d), r.d] (.tup [(doI l r).1.d, (doI l r).2.1.d, .int .i64 (doI l r).2.2.1, .int .i64 (doI l r).2.2.2]) := by
 have hb' : (l.map IrS.d).length ≤ 9223372036854775807 := by simpa using hb
 cases h : badI l with
 | none =>
  have hc : (chkI l).2 = 0 := by unfold chkI; rw [h]
  by_cases he : (runI l r .zero).2.2.2 = 0
  ·rw [doI_ok hc he]
   have hk := do_ok_ok l r hb' ho h (beq_iff_eq.mpr he)
   have hl := runI_left l r .zero
   have ew : IntKind.i64.wrap (((l.map IrS.d).length : Int) - (((restI l r .zero).map IrS.d).length : Int)) = ((l.length - (runI l r .zero).2.2.1 : Nat) : Int) := by
    rw [List.length_map, List.length_map, restI_len, w_i64]
    omega
   rw [← ew]
   exact hk
  ·have e : doI l r = (.zero, .zero, 0, (runI l r .zero).2.2.2) := by
    unfold doI
    simp only [if_pos hc, if_neg he]
   rw [e]
   exact do_err_ok l r hb' ho h (beq_eq_false_iff_ne.mpr he)
 | some k =>
  have hc : ¬ (chkI l).2 = 0 := by unfold chkI; rw [h]; simp
  have e : doI l r = (.zero, .zero, 0, 2) := by
   unfold doI
   simp only [if_neg hc]
  rw [e]
  exact do_bad_ok l r hb' ho k h
end Go.Proofs.YtojgmjfcfpclbaaGreat

namespace Go.Proofs.YtojgmjfcfpclbaaGreat
open Go Go.Ev
set_option maxRecDepth 100000
theorem rhold_ok (op a b : Int) (o0 : 0 ≤ op) (o1 : op ≤ 10) (ha : inU a) (hb : inU b) : Ret Tryz.prog 44 [.int .i8 op, .int .i8 64, .int .u64 a, .int .u64 b] (.tup [.bool (hS op a b), .int .i64 0]) := by
 have hc : op = 0 ∨ op = 1 ∨ op = 2 ∨ op = 3 ∨ op = 4 ∨ op = 5 ∨ op = 6 ∨ op = 7 ∨ op = 8 ∨ op = 9 ∨ op = 10 := by omega
 rcases hc with rfl | rfl | rfl | rfl | rfl | rfl | rfl | rfl | rfl | rfl | rfl
 ·exact rhold_0_ok a b ha hb
 ·exact rhold_1_ok a b ha hb
 ·exact rhold_2_ok a b ha hb
 ·exact rhold_3_ok a b ha hb
 ·exact rhold_4_ok a b ha hb
 ·exact rhold_5_ok a b ha hb
 ·exact rhold_6_ok a b ha hb
 ·exact rhold_7_ok a b ha hb
 ·exact rhold_8_ok a b ha hb
 ·exact rhold_9_ok a b ha hb
 ·exact rhold_10_ok a b ha hb
theorem tocc_cc {op : Int} (o0 : 0 ≤ op) (o1 : op ≤ 10) : ccM (toccM op).1 = true := by
 have hc : op = 0 ∨ op = 1 ∨ op = 2 ∨ op = 3 ∨ op = 4 ∨ op = 5 ∨ op = 6 ∨ op = 7 ∨ op = 8 ∨ op = 9 ∨ op = 10 := by omega
 rcases hc with rfl | rfl | rfl | rfl | rfl | rfl | rfl | rfl | rfl | rfl | rfl <;> rfl
theorem fl_ok {op a b : Int} {m : MachS} (o0 : 0 ≤ op) (o1 : op ≤ 10) (hk : m.fk = true) (h : holdM (toccM op).1 m.fc m.fz m.fs m.fo = hS op a b) :
  Ret Tryz.prog 45 [.int .i8 (toccM op).1, .agg [.bool m.fk, .bool m.fc, .bool m.fz, .bool m.fs, .bool m.fo]] (.tup [.bool (hS op a b), .int .i64 0]) := by
 rw [hk, ← h]
 exact fholds_t_ok (toccM op).1 m.fc m.fz m.fs m.fo (tocc_cc o0 o1)
theorem small_ok {l : List IrS} (h : l.all (fun s => decide (-128 ≤ s.kind) && decide (s.kind ≤ 127) && decide (s.op ≤ 127) && decide (s.cc ≤ 127) && decide (s.phys ≤ 127) && decide (-128 ≤ s.reg) && decide (s.reg ≤ 127)) = true) : AllOk l := by
 intro s hs
 have := List.all_eq_true.mp h s hs
 simp only [Bool.and_eq_true, decide_eq_true_eq] at this
 unfold IrS.ok
 omega
theorem jumps_any_ok (kind op width size : Int) (byReg : Bool) (dst src off imm : Int) (r : RgS) (hl : ∀ x ∈ r.l, inU x) :
  Ret Tryz.prog 7 [instD kind op width size byReg dst src off imm, r.d] (.bool true) := by
 cases hk : kind == 3
 ·exact jumps_k_ok _ _ _ _ _ _ _ _ _ _ _ _ _ _ _ _ _ _ _ _ hk
 cases hm : mayM kind op width size byReg dst src 0 imm
 ·exact jumps_m_ok _ _ _ _ _ _ _ _ _ _ _ _ _ _ _ _ _ _ _ _ hk hm
 obtain rfl : kind = 3 := by simpa using hk
 have hr : ∀ k, inU (r.get k) := fun k => rg_in hl k
 obtain ⟨⟨d0, d1, s0, s1, _, _, i1, i2⟩, hf⟩ := may_forms hm
 rcases hf with ⟨h0, _⟩ | ⟨h0, _⟩ | ⟨h0, _⟩ | ⟨_, rfl, rfl, ho, _, _⟩ | ⟨h0, _⟩ | ⟨h0, _⟩ | ⟨h0, _⟩
 ·exact absurd h0 (by decide)
 ·exact absurd h0 (by decide)
 ·exact absurd h0 (by decide)
 ·have o0 : 0 ≤ op := by omega
  have o1 : op ≤ 10 := by omega
  have hx : mayM 6 0 0 0 false 0 0 0 0 = true := rfl
  cases byReg
  ·have hb : inU (u64 imm) := u64_range imm
   by_cases hs : op = 10
   ·subst hs
    obtain ⟨m, e, k1, k2, k3, k4, k5⟩ := do_tstI (r := r) (d := dst) (imm := imm) d0 d1 i1 i2
    have hdo := ido_ok [takeS 0 dst, xS 15 64 0 0 imm 0] r (by simp) (small_ok (by simp [takeS, xS]; omega))
    rw [e] at hdo
    exact jumps_false_ok 10 dst src off imm 15 r.r0 r.r1 r.r2 r.r3 r.r4 r.r5 r.r6 r.r7 r.r8 r.r9 r.r10 hm d0 d1 s0 s1 m _ (Ret.args (jrun_set_false_ok dst src imm hm hx) (by simp [wkL, wk, wkO])) hdo (rhold_ok 10 (r.get dst) (u64 imm) o0 o1 (hr dst) hb) (fl_ok o0 o1 k1 (by rw [k2, k3, k4, k5]; exact cc_set))
   ·obtain ⟨m, e, k1, k2, k3, k4, k5⟩ := do_cmpI (r := r) (d := dst) (imm := imm) d0 d1 i1 i2
    have hdo := ido_ok [takeS 0 dst, xS 14 64 0 0 imm 0] r (by simp) (small_ok (by simp [takeS, xS]; omega))
    rw [e] at hdo
    exact jumps_false_ok op dst src off imm 14 r.r0 r.r1 r.r2 r.r3 r.r4 r.r5 r.r6 r.r7 r.r8 r.r9 r.r10 hm d0 d1 s0 s1 m _ (Ret.args (jrun_cmp_false_ok op o0 o1 (beq_eq_false_iff_ne.mpr hs) dst src imm hm hx) (by simp [wkL, wk, wkO])) hdo (rhold_ok op (r.get dst) (u64 imm) o0 o1 (hr dst) hb) (fl_ok o0 o1 k1 (by rw [k2, k3, k4, k5]; exact cc_cmp o0 (by omega) (hr dst) hb))
  ·by_cases hs : op = 10
   ·subst hs
    obtain ⟨m, e, k1, k2, k3, k4, k5⟩ := do_tstR (r := r) (d := dst) (e := src) d0 d1 s0 s1
    have hdo := ido_ok [takeS 0 dst, takeS 1 src, xS 8 64 0 1 0 0] r (by simp) (small_ok (by simp [takeS, xS]; omega))
    rw [e] at hdo
    exact jumps_true_ok 10 dst src off imm 8 r.r0 r.r1 r.r2 r.r3 r.r4 r.r5 r.r6 r.r7 r.r8 r.r9 r.r10 hm d0 d1 s0 s1 m _ (Ret.args (jrun_set_true_ok dst src imm hm hx) (by simp [wkL, wk, wkO])) hdo (rhold_ok 10 (r.get dst) (r.get src) o0 o1 (hr dst) (hr src)) (fl_ok o0 o1 k1 (by rw [k2, k3, k4, k5]; exact cc_set))
   ·obtain ⟨m, e, k1, k2, k3, k4, k5⟩ := do_cmpR (r := r) (d := dst) (e := src) d0 d1 s0 s1
    have hdo := ido_ok [takeS 0 dst, takeS 1 src, xS 7 64 0 1 0 0] r (by simp) (small_ok (by simp [takeS, xS]; omega))
    rw [e] at hdo
    exact jumps_true_ok op dst src off imm 7 r.r0 r.r1 r.r2 r.r3 r.r4 r.r5 r.r6 r.r7 r.r8 r.r9 r.r10 hm d0 d1 s0 s1 m _ (Ret.args (jrun_cmp_true_ok op o0 o1 (beq_eq_false_iff_ne.mpr hs) dst src imm hm hx) (by simp [wkL, wk, wkO])) hdo (rhold_ok op (r.get dst) (r.get src) o0 o1 (hr dst) (hr src)) (fl_ok o0 o1 k1 (by rw [k2, k3, k4, k5]; exact cc_cmp o0 (by omega) (hr dst) (hr src)))
 ·exact absurd h0 (by decide)
 ·exact absurd h0 (by decide)
 ·exact absurd h0 (by decide)
end Go.Proofs.YtojgmjfcfpclbaaGreat
