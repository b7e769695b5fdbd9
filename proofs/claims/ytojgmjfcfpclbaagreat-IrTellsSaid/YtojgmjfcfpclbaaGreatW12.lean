/- Contracts and plain laws that a statement's proof leans on (texts merged: R1b, R1c, R1d, ZEe, R1f, ZESM, ZEC, ZI4, I1H, I1, I2, XLen, Y1a). -/
import Derived.Test.YtojgmjfcfpclbaaGreatW04
import Derived.Test.YtojgmjfcfpclbaaGreatW08
import Derived.Test.YtojgmjfcfpclbaaGreatW09
import Derived.Test.YtojgmjfcfpclbaaGreatW10
import Derived.Test.YtojgmjfcfpclbaaGreatW11
set_option linter.unusedVariables false
set_option linter.unusedSimpArgs false
namespace Go.Proofs.YtojgmjfcfpclbaaGreat
open Go Go.Ev
set_option maxRecDepth 100000
set_option maxHeartbeats 8000000
def SpR1b0 (k0_ : Int) : Prop := ∀ (m : MachS) (w dst src base disp imm cc ld : Int) (d0 : 0 ≤ dst) (d1 : dst ≤ 15) (s0 : 0 ≤ src) (s1 : src ≤ 15) (b0 : 0 ≤ base) (b1 : base ≤ 15) (hm : mayX k0_ w dst src base disp imm cc = true) (hw : longM w = true), Ret Tryz.prog 9 ([m.d, xD k0_ w dst src base disp imm cc, .int .u64 ld]) (.tup [(doS (m.at (u64 (m.pc + u64 (lenX k0_ w dst src base disp imm cc)))) ⟨k0_, w, dst, src, base, disp, imm, cc⟩ ld).1.d, .int .i64 0])
theorem rexec_3_ok : SpR1b0 3 := by
 intro m w dst src base disp imm cc ld d0 d1 s0 s1 b0 b1 hm hw
 have c0 := @rmayX_ok 3 w dst src base disp imm cc
 rw [hm] at c0
 have c1 := @rlen_ok 3 w dst src base disp imm cc (by decide)
 have c2 := @class_ok 3
 have c3 := @rdo_4_ok w (rg (MachS.rl m) dst) (rg (MachS.rl m) src) hw
 have c4 := @rnone_ok
 have c5 := @rof_ok w (doM 4 w (rg (MachS.rl m) dst) (rg (MachS.rl m) src)) hw
 exact (o9 (d := .tup [(doS (m.at (u64 (m.pc + u64 (lenX 3 w dst src base disp imm cc)))) ⟨3, w, dst, src, base, disp, imm, cc⟩ ld).1.d, .int .i64 0]) ([.ret _ _ _ c0, tF, .ret _ _ _ c1, .inl, tF, tF, tT, tT, tT, .tst _ true (in16 d0 d1), .get _ _ _ (@get_regm m dst ((fT m (pcX m 3 w dst src base disp imm cc) [])) d0 d1), .inl, .ret _ _ _ c2, tF, tF, tF, .tst _ true (in16 s0 s1), .get _ _ _ (@get_regm m src ((fT m (pcX m 3 w dst src base disp imm cc) [])) s0 s1), .keep [(0, Ob.box (MachS.cw m (pcX m 3 w dst src base disp imm cc) [])), (1, Ob.box [.int .i8 3, .int .i8 w, .int .i8 dst, .int .i8 src, .int .i8 base, .int .i64 disp, .int .i64 imm, .int .i8 cc]), (2, Ob.box zC)], .ret _ _ _ c3, .inl, .ret _ _ _ c4, tF, tF, tT, tT, .ret _ _ _ c5] ++ List.replicate 13 tT ++ [.tst _ true (in16 d0 d1), .putA _ _ _ _ (@put_regm m dst (doM 4 w (rg (MachS.rl m) dst) (rg (MachS.rl m) src)) ([.bool true, .bool false, .bool (cutM (doM 4 w (rg (MachS.rl m) dst) (rg (MachS.rl m) src)) w == 0), .bool (negM (doM 4 w (rg (MachS.rl m) dst) (rg (MachS.rl m) src)) w), .bool false, .int .u64 (pcX m 3 w dst src base disp imm cc)]) d0 d1)]) (by kernel_rfl))
theorem rexec_4_ok : SpR1b0 4 := by
 intro m w dst src base disp imm cc ld d0 d1 s0 s1 b0 b1 hm hw
 have c0 := @rmayX_ok 4 w dst src base disp imm cc
 rw [hm] at c0
 have c1 := @rlen_ok 4 w dst src base disp imm cc (by decide)
 have c2 := @class_ok 4
 have c3 := @rdo_5_ok w (rg (MachS.rl m) dst) (rg (MachS.rl m) src) hw
 have c4 := @rnone_ok
 have c5 := @rof_ok w (doM 5 w (rg (MachS.rl m) dst) (rg (MachS.rl m) src)) hw
 exact (o9 (d := .tup [(doS (m.at (u64 (m.pc + u64 (lenX 4 w dst src base disp imm cc)))) ⟨4, w, dst, src, base, disp, imm, cc⟩ ld).1.d, .int .i64 0]) ([.ret _ _ _ c0, tF, .ret _ _ _ c1, .inl, tF, tF, tF, tF, tT, tT, tT, .tst _ true (in16 d0 d1), .get _ _ _ (@get_regm m dst ((fT m (pcX m 4 w dst src base disp imm cc) [])) d0 d1), .inl, .ret _ _ _ c2, tF, tF, tF, .tst _ true (in16 s0 s1), .get _ _ _ (@get_regm m src ((fT m (pcX m 4 w dst src base disp imm cc) [])) s0 s1), .keep [(0, Ob.box (MachS.cw m (pcX m 4 w dst src base disp imm cc) [])), (1, Ob.box [.int .i8 4, .int .i8 w, .int .i8 dst, .int .i8 src, .int .i8 base, .int .i64 disp, .int .i64 imm, .int .i8 cc]), (2, Ob.box zC)], .ret _ _ _ c3, .inl, .ret _ _ _ c4, tF, tF, tF, tT, tT, .ret _ _ _ c5] ++ List.replicate 13 tT ++ [.tst _ true (in16 d0 d1), .putA _ _ _ _ (@put_regm m dst (doM 5 w (rg (MachS.rl m) dst) (rg (MachS.rl m) src)) ([.bool true, .bool false, .bool (cutM (doM 5 w (rg (MachS.rl m) dst) (rg (MachS.rl m) src)) w == 0), .bool (negM (doM 5 w (rg (MachS.rl m) dst) (rg (MachS.rl m) src)) w), .bool false, .int .u64 (pcX m 4 w dst src base disp imm cc)]) d0 d1)]) (by kernel_rfl))
theorem rexec_5_ok : SpR1b0 5 := by
 intro m w dst src base disp imm cc ld d0 d1 s0 s1 b0 b1 hm hw
 have c0 := @rmayX_ok 5 w dst src base disp imm cc
 rw [hm] at c0
 have c1 := @rlen_ok 5 w dst src base disp imm cc (by decide)
 have c2 := @class_ok 5
 have c3 := @rdo_1_ok w (rg (MachS.rl m) dst) (rg (MachS.rl m) src) hw
 have c4 := @rnone_ok
 have c5 := @rsub_ok w (rg (MachS.rl m) dst) (rg (MachS.rl m) src) hw
 exact (o9 (d := .tup [(doS (m.at (u64 (m.pc + u64 (lenX 5 w dst src base disp imm cc)))) ⟨5, w, dst, src, base, disp, imm, cc⟩ ld).1.d, .int .i64 0]) ([.ret _ _ _ c0, tF, .ret _ _ _ c1, .inl] ++ List.replicate 8 tF ++ [tT, tT, tT, .tst _ true (in16 d0 d1), .get _ _ _ (@get_regm m dst ((fT m (pcX m 5 w dst src base disp imm cc) [])) d0 d1), .inl, .ret _ _ _ c2, tF, tF, tF, .tst _ true (in16 s0 s1), .get _ _ _ (@get_regm m src ((fT m (pcX m 5 w dst src base disp imm cc) [])) s0 s1), .keep [(0, Ob.box (MachS.cw m (pcX m 5 w dst src base disp imm cc) [])), (1, Ob.box [.int .i8 5, .int .i8 w, .int .i8 dst, .int .i8 src, .int .i8 base, .int .i64 disp, .int .i64 imm, .int .i8 cc]), (2, Ob.box zC)], .ret _ _ _ c3, .inl, .ret _ _ _ c4, tF, tT, .ret _ _ _ c5] ++ List.replicate 13 tT ++ [.tst _ true (in16 d0 d1), .putA _ _ _ _ (@put_regm m dst (doM 1 w (rg (MachS.rl m) dst) (rg (MachS.rl m) src)) ([.bool true, .bool (subC w (rg (MachS.rl m) dst) (rg (MachS.rl m) src)), .bool (cutM (u64 (rg (MachS.rl m) dst - rg (MachS.rl m) src)) w == 0), .bool (negM (u64 (rg (MachS.rl m) dst - rg (MachS.rl m) src)) w), .bool (subO w (rg (MachS.rl m) dst) (rg (MachS.rl m) src)), .int .u64 (pcX m 5 w dst src base disp imm cc)]) d0 d1)]) (by kernel_rfl))
theorem rexec_6_ok : SpR1b0 6 := by
 intro m w dst src base disp imm cc ld d0 d1 s0 s1 b0 b1 hm hw
 have c0 := @rmayX_ok 6 w dst src base disp imm cc
 rw [hm] at c0
 have c1 := @rlen_ok 6 w dst src base disp imm cc (by decide)
 have c2 := @class_ok 6
 have c3 := @rdo_10_ok w (rg (MachS.rl m) dst) (rg (MachS.rl m) src) hw
 have c4 := @rnone_ok
 have c5 := @rof_ok w (doM 10 w (rg (MachS.rl m) dst) (rg (MachS.rl m) src)) hw
 exact (o9 (d := .tup [(doS (m.at (u64 (m.pc + u64 (lenX 6 w dst src base disp imm cc)))) ⟨6, w, dst, src, base, disp, imm, cc⟩ ld).1.d, .int .i64 0]) ([.ret _ _ _ c0, tF, .ret _ _ _ c1, .inl] ++ List.replicate 12 tF ++ [tT, tT, tT, .tst _ true (in16 d0 d1), .get _ _ _ (@get_regm m dst ((fT m (pcX m 6 w dst src base disp imm cc) [])) d0 d1), .inl, .ret _ _ _ c2, tF, tF, tF, .tst _ true (in16 s0 s1), .get _ _ _ (@get_regm m src ((fT m (pcX m 6 w dst src base disp imm cc) [])) s0 s1), .keep [(0, Ob.box (MachS.cw m (pcX m 6 w dst src base disp imm cc) [])), (1, Ob.box [.int .i8 6, .int .i8 w, .int .i8 dst, .int .i8 src, .int .i8 base, .int .i64 disp, .int .i64 imm, .int .i8 cc]), (2, Ob.box zC)], .ret _ _ _ c3, .inl, .ret _ _ _ c4, tF, tF, tF, tF, tT, .ret _ _ _ c5] ++ List.replicate 13 tT ++ [.tst _ true (in16 d0 d1), .putA _ _ _ _ (@put_regm m dst (doM 10 w (rg (MachS.rl m) dst) (rg (MachS.rl m) src)) ([.bool true, .bool false, .bool (cutM (doM 10 w (rg (MachS.rl m) dst) (rg (MachS.rl m) src)) w == 0), .bool (negM (doM 10 w (rg (MachS.rl m) dst) (rg (MachS.rl m) src)) w), .bool false, .int .u64 (pcX m 6 w dst src base disp imm cc)]) d0 d1)]) (by kernel_rfl))
theorem rexec_7_ok : SpR1b0 7 := by
 intro m w dst src base disp imm cc ld d0 d1 s0 s1 b0 b1 hm hw
 have c0 := @rmayX_ok 7 w dst src base disp imm cc
 rw [hm] at c0
 have c1 := @rlen_ok 7 w dst src base disp imm cc (by decide)
 have c2 := @class_ok 7
 have c3 := @rdo_1_ok w (rg (MachS.rl m) dst) (rg (MachS.rl m) src) hw
 have c4 := @rnone_ok
 have c5 := @rsub_ok w (rg (MachS.rl m) dst) (rg (MachS.rl m) src) hw
 exact (o9 (d := .tup [(doS (m.at (u64 (m.pc + u64 (lenX 7 w dst src base disp imm cc)))) ⟨7, w, dst, src, base, disp, imm, cc⟩ ld).1.d, .int .i64 0]) ([.ret _ _ _ c0, tF, .ret _ _ _ c1, .inl] ++ List.replicate 10 tF ++ [tT, tT, tT, .tst _ true (in16 d0 d1), .get _ _ _ (@get_regm m dst ((fT m (pcX m 7 w dst src base disp imm cc) [])) d0 d1), .inl, .ret _ _ _ c2, tF, tF, tF, .tst _ true (in16 s0 s1), .get _ _ _ (@get_regm m src ((fT m (pcX m 7 w dst src base disp imm cc) [])) s0 s1), .keep [(0, Ob.box (MachS.cw m (pcX m 7 w dst src base disp imm cc) [])), (1, Ob.box [.int .i8 7, .int .i8 w, .int .i8 dst, .int .i8 src, .int .i8 base, .int .i64 disp, .int .i64 imm, .int .i8 cc]), (2, Ob.box zC)], .ret _ _ _ c3, .inl, .ret _ _ _ c4, tF, tT, .ret _ _ _ c5] ++ List.replicate 13 tF) (by kernel_rfl))
theorem rexec_8_ok : SpR1b0 8 := by
 intro m w dst src base disp imm cc ld d0 d1 s0 s1 b0 b1 hm hw
 have c0 := @rmayX_ok 8 w dst src base disp imm cc
 rw [hm] at c0
 have c1 := @rlen_ok 8 w dst src base disp imm cc (by decide)
 have c2 := @class_ok 8
 have c3 := @rdo_5_ok w (rg (MachS.rl m) dst) (rg (MachS.rl m) src) hw
 have c4 := @rnone_ok
 have c5 := @rof_ok w (doM 5 w (rg (MachS.rl m) dst) (rg (MachS.rl m) src)) hw
 exact (o9 (d := .tup [(doS (m.at (u64 (m.pc + u64 (lenX 8 w dst src base disp imm cc)))) ⟨8, w, dst, src, base, disp, imm, cc⟩ ld).1.d, .int .i64 0]) ([.ret _ _ _ c0, tF, .ret _ _ _ c1, .inl, tF, tF, tF, tF, tF, tF, tT, tT, tT, .tst _ true (in16 d0 d1), .get _ _ _ (@get_regm m dst ((fT m (pcX m 8 w dst src base disp imm cc) [])) d0 d1), .inl, .ret _ _ _ c2, tF, tF, tF, .tst _ true (in16 s0 s1), .get _ _ _ (@get_regm m src ((fT m (pcX m 8 w dst src base disp imm cc) [])) s0 s1), .keep [(0, Ob.box (MachS.cw m (pcX m 8 w dst src base disp imm cc) [])), (1, Ob.box [.int .i8 8, .int .i8 w, .int .i8 dst, .int .i8 src, .int .i8 base, .int .i64 disp, .int .i64 imm, .int .i8 cc]), (2, Ob.box zC)], .ret _ _ _ c3, .inl, .ret _ _ _ c4, tF, tF, tF, tT, tT, .ret _ _ _ c5] ++ List.replicate 8 tT ++ [tF, tF, tF, tF, tF]) (by kernel_rfl))
theorem rexec_12_ok : SpR1b0 12 := by
 intro m w dst src base disp imm cc ld d0 d1 s0 s1 b0 b1 hm hw
 have c0 := @rmayX_ok 12 w dst src base disp imm cc
 rw [hm] at c0
 have c1 := @rlen_ok 12 w dst src base disp imm cc (by decide)
 have c2 := @class_ok 12
 have c3 := @rdo_1_ok w (rg (MachS.rl m) dst) (IntKind.wrap IntKind.u64 imm) hw
 have c4 := @rnone_ok
 have c5 := @rsub_ok w (rg (MachS.rl m) dst) (IntKind.wrap IntKind.u64 imm) hw
 exact (o9 (d := .tup [(doS (m.at (u64 (m.pc + u64 (lenX 12 w dst src base disp imm cc)))) ⟨12, w, dst, src, base, disp, imm, cc⟩ ld).1.d, .int .i64 0]) ([.ret _ _ _ c0, tF, .ret _ _ _ c1, .inl] ++ List.replicate 9 tF ++ [tT, tT, tT, .tst _ true (in16 d0 d1), .get _ _ _ (@get_regm m dst ((fT m (pcX m 12 w dst src base disp imm cc) [])) d0 d1), .inl, .ret _ _ _ c2, tT, tT, .keep [(0, Ob.box (MachS.cw m (pcX m 12 w dst src base disp imm cc) [])), (1, Ob.box [.int .i8 12, .int .i8 w, .int .i8 dst, .int .i8 src, .int .i8 base, .int .i64 disp, .int .i64 imm, .int .i8 cc]), (2, Ob.box zC)], .ret _ _ _ c3, .inl, .ret _ _ _ c4, tF, tT, .ret _ _ _ c5] ++ List.replicate 13 tT ++ [.tst _ true (in16 d0 d1), .putA _ _ _ _ (@put_regm m dst (doM 1 w (rg (MachS.rl m) dst) (IntKind.wrap IntKind.u64 imm)) ([.bool true, .bool (subC w (rg (MachS.rl m) dst) (IntKind.wrap IntKind.u64 imm)), .bool (cutM (u64 (rg (MachS.rl m) dst - IntKind.wrap IntKind.u64 imm)) w == 0), .bool (negM (u64 (rg (MachS.rl m) dst - IntKind.wrap IntKind.u64 imm)) w), .bool (subO w (rg (MachS.rl m) dst) (IntKind.wrap IntKind.u64 imm)), .int .u64 (pcX m 12 w dst src base disp imm cc)]) d0 d1)]) (by kernel_rfl))
end Go.Proofs.YtojgmjfcfpclbaaGreat

namespace Go.Proofs.YtojgmjfcfpclbaaGreat
open Go Go.Ev
set_option maxRecDepth 100000
set_option maxHeartbeats 8000000
def SpR1c0 (k0_ : Int) : Prop := ∀ (m : MachS) (w dst src base disp imm cc ld : Int) (d0 : 0 ≤ dst) (d1 : dst ≤ 15) (s0 : 0 ≤ src) (s1 : src ≤ 15) (b0 : 0 ≤ base) (b1 : base ≤ 15) (hm : mayX k0_ w dst src base disp imm cc = true) (hw : longM w = true), Ret Tryz.prog 9 ([m.d, xD k0_ w dst src base disp imm cc, .int .u64 ld]) (.tup [(doS (m.at (u64 (m.pc + u64 (lenX k0_ w dst src base disp imm cc)))) ⟨k0_, w, dst, src, base, disp, imm, cc⟩ ld).1.d, .int .i64 0])
theorem rexec_17_ok : SpR1c0 17 := by
 intro m w dst src base disp imm cc ld d0 d1 s0 s1 b0 b1 hm hw
 have c0 := @rmayX_ok 17 w dst src base disp imm cc
 rw [hm] at c0
 have c1 := @rlen_ok 17 w dst src base disp imm cc (by decide)
 have c2 := @class_ok 17
 have c3 := @rdo_6_ok w (rg (MachS.rl m) dst) (IntKind.wrap IntKind.u64 imm) hw
 have c4 := @rnone_ok
 exact (o9 (d := .tup [(doS (m.at (u64 (m.pc + u64 (lenX 17 w dst src base disp imm cc)))) ⟨17, w, dst, src, base, disp, imm, cc⟩ ld).1.d, .int .i64 0]) ([.ret _ _ _ c0, tF, .ret _ _ _ c1, .inl] ++ List.replicate 15 tF ++ [tT, tT, tT, .tst _ true (in16 d0 d1), .get _ _ _ (@get_regm m dst ((fT m (pcX m 17 w dst src base disp imm cc) [])) d0 d1), .inl, .ret _ _ _ c2, tF, tT, .keep [(0, Ob.box (MachS.cw m (pcX m 17 w dst src base disp imm cc) [])), (1, Ob.box [.int .i8 17, .int .i8 w, .int .i8 dst, .int .i8 src, .int .i8 base, .int .i64 disp, .int .i64 imm, .int .i8 cc]), (2, Ob.box zC)], .ret _ _ _ c3, .inl, .ret _ _ _ c4, tF, tF, tF, tF, tF] ++ List.replicate 13 tT ++ [.tst _ true (in16 d0 d1), .putA _ _ _ _ (@put_regm m dst (doM 6 w (rg (MachS.rl m) dst) (IntKind.wrap IntKind.u64 imm)) ([.bool false, .bool false, .bool false, .bool false, .bool false, .int .u64 (pcX m 17 w dst src base disp imm cc)]) d0 d1)]) (by kernel_rfl))
theorem rexec_18_ok : SpR1c0 18 := by
 intro m w dst src base disp imm cc ld d0 d1 s0 s1 b0 b1 hm hw
 have c0 := @rmayX_ok 18 w dst src base disp imm cc
 rw [hm] at c0
 have c1 := @rlen_ok 18 w dst src base disp imm cc (by decide)
 have c2 := @class_ok 18
 have c3 := @rdo_7_ok w (rg (MachS.rl m) dst) (IntKind.wrap IntKind.u64 imm) hw
 have c4 := @rnone_ok
 exact (o9 (d := .tup [(doS (m.at (u64 (m.pc + u64 (lenX 18 w dst src base disp imm cc)))) ⟨18, w, dst, src, base, disp, imm, cc⟩ ld).1.d, .int .i64 0]) ([.ret _ _ _ c0, tF, .ret _ _ _ c1, .inl] ++ List.replicate 17 tF ++ [tT, tT, tT, .tst _ true (in16 d0 d1), .get _ _ _ (@get_regm m dst ((fT m (pcX m 18 w dst src base disp imm cc) [])) d0 d1), .inl, .ret _ _ _ c2, tF, tT, .keep [(0, Ob.box (MachS.cw m (pcX m 18 w dst src base disp imm cc) [])), (1, Ob.box [.int .i8 18, .int .i8 w, .int .i8 dst, .int .i8 src, .int .i8 base, .int .i64 disp, .int .i64 imm, .int .i8 cc]), (2, Ob.box zC)], .ret _ _ _ c3, .inl, .ret _ _ _ c4, tF, tF, tF, tF, tF] ++ List.replicate 13 tT ++ [.tst _ true (in16 d0 d1), .putA _ _ _ _ (@put_regm m dst (doM 7 w (rg (MachS.rl m) dst) (IntKind.wrap IntKind.u64 imm)) ([.bool false, .bool false, .bool false, .bool false, .bool false, .int .u64 (pcX m 18 w dst src base disp imm cc)]) d0 d1)]) (by kernel_rfl))
theorem rexec_19_ok : SpR1c0 19 := by
 intro m w dst src base disp imm cc ld d0 d1 s0 s1 b0 b1 hm hw
 have c0 := @rmayX_ok 19 w dst src base disp imm cc
 rw [hm] at c0
 have c1 := @rlen_ok 19 w dst src base disp imm cc (by decide)
 have c2 := @class_ok 19
 have c3 := @rdo_12_ok w (rg (MachS.rl m) dst) (IntKind.wrap IntKind.u64 imm) hw
 have c4 := @rnone_ok
 exact (o9 (d := .tup [(doS (m.at (u64 (m.pc + u64 (lenX 19 w dst src base disp imm cc)))) ⟨19, w, dst, src, base, disp, imm, cc⟩ ld).1.d, .int .i64 0]) ([.ret _ _ _ c0, tF, .ret _ _ _ c1, .inl] ++ List.replicate 19 tF ++ [tT, tT, tT, .tst _ true (in16 d0 d1), .get _ _ _ (@get_regm m dst ((fT m (pcX m 19 w dst src base disp imm cc) [])) d0 d1), .inl, .ret _ _ _ c2, tF, tT, .keep [(0, Ob.box (MachS.cw m (pcX m 19 w dst src base disp imm cc) [])), (1, Ob.box [.int .i8 19, .int .i8 w, .int .i8 dst, .int .i8 src, .int .i8 base, .int .i64 disp, .int .i64 imm, .int .i8 cc]), (2, Ob.box zC)], .ret _ _ _ c3, .inl, .ret _ _ _ c4, tF, tF, tF, tF, tF] ++ List.replicate 13 tT ++ [.tst _ true (in16 d0 d1), .putA _ _ _ _ (@put_regm m dst (doM 12 w (rg (MachS.rl m) dst) (IntKind.wrap IntKind.u64 imm)) ([.bool false, .bool false, .bool false, .bool false, .bool false, .int .u64 (pcX m 19 w dst src base disp imm cc)]) d0 d1)]) (by kernel_rfl))
theorem rexec_20_ok : SpR1c0 20 := by
 intro m w dst src base disp imm cc ld d0 d1 s0 s1 b0 b1 hm hw
 have c0 := @rmayX_ok 20 w dst src base disp imm cc
 rw [hm] at c0
 have c1 := @rlen_ok 20 w dst src base disp imm cc (by decide)
 have c2 := @class_ok 20
 have c3 := @rdo_6_ok w (rg (MachS.rl m) dst) (MachS.q1 m) hw
 have c4 := @rnone_ok
 exact (o9 (d := .tup [(doS (m.at (u64 (m.pc + u64 (lenX 20 w dst src base disp imm cc)))) ⟨20, w, dst, src, base, disp, imm, cc⟩ ld).1.d, .int .i64 0]) ([.ret _ _ _ c0, tF, .ret _ _ _ c1, .inl] ++ List.replicate 16 tF ++ [tT, tT, .tst _ true (in16 d0 d1), .get _ _ _ (@get_regm m dst ((fT m (pcX m 20 w dst src base disp imm cc) [])) d0 d1), .inl, .ret _ _ _ c2, tF, tF, tT, .keep [(0, Ob.box (MachS.cw m (pcX m 20 w dst src base disp imm cc) [])), (1, Ob.box [.int .i8 20, .int .i8 w, .int .i8 dst, .int .i8 src, .int .i8 base, .int .i64 disp, .int .i64 imm, .int .i8 cc]), (2, Ob.box zC)], .ret _ _ _ c3, .inl, .ret _ _ _ c4, tF, tF, tF, tF, tF] ++ List.replicate 13 tT ++ [.tst _ true (in16 d0 d1), .putA _ _ _ _ (@put_regm m dst (doM 6 w (rg (MachS.rl m) dst) (MachS.q1 m)) ([.bool false, .bool false, .bool false, .bool false, .bool false, .int .u64 (pcX m 20 w dst src base disp imm cc)]) d0 d1)]) (by kernel_rfl))
theorem rexec_21_ok : SpR1c0 21 := by
 intro m w dst src base disp imm cc ld d0 d1 s0 s1 b0 b1 hm hw
 have c0 := @rmayX_ok 21 w dst src base disp imm cc
 rw [hm] at c0
 have c1 := @rlen_ok 21 w dst src base disp imm cc (by decide)
 have c2 := @class_ok 21
 have c3 := @rdo_7_ok w (rg (MachS.rl m) dst) (MachS.q1 m) hw
 have c4 := @rnone_ok
 exact (o9 (d := .tup [(doS (m.at (u64 (m.pc + u64 (lenX 21 w dst src base disp imm cc)))) ⟨21, w, dst, src, base, disp, imm, cc⟩ ld).1.d, .int .i64 0]) ([.ret _ _ _ c0, tF, .ret _ _ _ c1, .inl] ++ List.replicate 18 tF ++ [tT, tT, .tst _ true (in16 d0 d1), .get _ _ _ (@get_regm m dst ((fT m (pcX m 21 w dst src base disp imm cc) [])) d0 d1), .inl, .ret _ _ _ c2, tF, tF, tT, .keep [(0, Ob.box (MachS.cw m (pcX m 21 w dst src base disp imm cc) [])), (1, Ob.box [.int .i8 21, .int .i8 w, .int .i8 dst, .int .i8 src, .int .i8 base, .int .i64 disp, .int .i64 imm, .int .i8 cc]), (2, Ob.box zC)], .ret _ _ _ c3, .inl, .ret _ _ _ c4, tF, tF, tF, tF, tF] ++ List.replicate 13 tT ++ [.tst _ true (in16 d0 d1), .putA _ _ _ _ (@put_regm m dst (doM 7 w (rg (MachS.rl m) dst) (MachS.q1 m)) ([.bool false, .bool false, .bool false, .bool false, .bool false, .int .u64 (pcX m 21 w dst src base disp imm cc)]) d0 d1)]) (by kernel_rfl))
theorem rexec_22_ok : SpR1c0 22 := by
 intro m w dst src base disp imm cc ld d0 d1 s0 s1 b0 b1 hm hw
 have c0 := @rmayX_ok 22 w dst src base disp imm cc
 rw [hm] at c0
 have c1 := @rlen_ok 22 w dst src base disp imm cc (by decide)
 have c2 := @class_ok 22
 have c3 := @rdo_12_ok w (rg (MachS.rl m) dst) (MachS.q1 m) hw
 have c4 := @rnone_ok
 exact (o9 (d := .tup [(doS (m.at (u64 (m.pc + u64 (lenX 22 w dst src base disp imm cc)))) ⟨22, w, dst, src, base, disp, imm, cc⟩ ld).1.d, .int .i64 0]) ([.ret _ _ _ c0, tF, .ret _ _ _ c1, .inl] ++ List.replicate 20 tF ++ [tT, tT, .tst _ true (in16 d0 d1), .get _ _ _ (@get_regm m dst ((fT m (pcX m 22 w dst src base disp imm cc) [])) d0 d1), .inl, .ret _ _ _ c2, tF, tF, tT, .keep [(0, Ob.box (MachS.cw m (pcX m 22 w dst src base disp imm cc) [])), (1, Ob.box [.int .i8 22, .int .i8 w, .int .i8 dst, .int .i8 src, .int .i8 base, .int .i64 disp, .int .i64 imm, .int .i8 cc]), (2, Ob.box zC)], .ret _ _ _ c3, .inl, .ret _ _ _ c4, tF, tF, tF, tF, tF] ++ List.replicate 13 tT ++ [.tst _ true (in16 d0 d1), .putA _ _ _ _ (@put_regm m dst (doM 12 w (rg (MachS.rl m) dst) (MachS.q1 m)) ([.bool false, .bool false, .bool false, .bool false, .bool false, .int .u64 (pcX m 22 w dst src base disp imm cc)]) d0 d1)]) (by kernel_rfl))
theorem rexec_23_ok : SpR1c0 23 := by
 intro m w dst src base disp imm cc ld d0 d1 s0 s1 b0 b1 hm hw
 have c0 := @rmayX_ok 23 w dst src base disp imm cc
 rw [hm] at c0
 have c1 := @rlen_ok 23 w dst src base disp imm cc (by decide)
 have c2 := @rdo_8_ok w (rg (MachS.rl m) dst) 0 hw
 have c3 := @rsub_ok w 0 (rg (MachS.rl m) dst) hw
 exact (o9 (d := .tup [(doS (m.at (u64 (m.pc + u64 (lenX 23 w dst src base disp imm cc)))) ⟨23, w, dst, src, base, disp, imm, cc⟩ ld).1.d, .int .i64 0]) ([.ret _ _ _ c0, tF, .ret _ _ _ c1, .inl] ++ List.replicate 24 tF ++ [tT, .tst _ true (in16 d0 d1), .get _ _ _ (@get_regm m dst ((fT m (pcX m 23 w dst src base disp imm cc) [])) d0 d1), .ret _ _ _ c2, .ret _ _ _ c3, .tst _ true (in16 d0 d1), .putA _ _ _ _ (@put_regm m dst (doM 8 w (rg (MachS.rl m) dst) 0) ((fT m (pcX m 23 w dst src base disp imm cc) [])) d0 d1)]) (by kernel_rfl))
end Go.Proofs.YtojgmjfcfpclbaaGreat

namespace Go.Proofs.YtojgmjfcfpclbaaGreat
open Go Go.Ev
set_option maxRecDepth 100000
set_option maxHeartbeats 8000000
theorem rexec_0_ok (m : MachS) (w dst src base disp imm cc ld : Int) (d0 : 0 ≤ dst) (d1 : dst ≤ 15) (s0 : 0 ≤ src) (s1 : src ≤ 15) (b0 : 0 ≤ base) (b1 : base ≤ 15) (hm : mayX 0 w dst src base disp imm cc = true) (hw : longM w = true)  : Ret Tryz.prog 9 ([m.d, xD 0 w dst src base disp imm cc, .int .u64 ld]) (.tup [(doS (m.at (u64 (m.pc + u64 (lenX 0 w dst src base disp imm cc)))) ⟨0, w, dst, src, base, disp, imm, cc⟩ ld).1.d, .int .i64 0]) := by
 have c0 := @rmayX_ok 0 w dst src base disp imm cc
 rw [show (mayX 0 w dst src base disp imm cc) = true from hm] at c0
 have c1 := @rlen_ok 0 w dst src base disp imm cc (by decide)
 have c2 := @rcut_l_ok (rg (MachS.rl m) src) w hw
 exact (o9 (d := .tup [(doS (m.at (u64 (m.pc + u64 (lenX 0 w dst src base disp imm cc)))) ⟨0, w, dst, src, base, disp, imm, cc⟩ ld).1.d, .int .i64 0]) ([.ret _ _ _ c0, tF, .ret _ _ _ c1, .inl] ++ List.replicate 22 tF ++ [tT, .tst _ true (in16 s0 s1), .get _ _ _ (@get_regm m src ((fT m (pcX m 0 w dst src base disp imm cc) [])) s0 s1), .ret _ _ _ c2, .tst _ true (in16 d0 d1), .putA _ _ _ _ (@put_regm m dst (cutM (rg (MachS.rl m) src) w) ((fT m (pcX m 0 w dst src base disp imm cc) [])) d0 d1)]) (by kernel_rfl))
theorem rexec_1_ok (m : MachS) (w dst src base disp imm cc ld : Int) (d0 : 0 ≤ dst) (d1 : dst ≤ 15) (s0 : 0 ≤ src) (s1 : src ≤ 15) (b0 : 0 ≤ base) (b1 : base ≤ 15) (hm : mayX 1 w dst src base disp imm cc = true) (hw : longM w = true)  : Ret Tryz.prog 9 ([m.d, xD 1 w dst src base disp imm cc, .int .u64 ld]) (.tup [(doS (m.at (u64 (m.pc + u64 (lenX 1 w dst src base disp imm cc)))) ⟨1, w, dst, src, base, disp, imm, cc⟩ ld).1.d, .int .i64 0]) := by
 have c0 := @rmayX_ok 1 w dst src base disp imm cc
 rw [show (mayX 1 w dst src base disp imm cc) = true from hm] at c0
 have c1 := @rlen_ok 1 w dst src base disp imm cc (by decide)
 have c2 := @rcut_l_ok (IntKind.wrap IntKind.u64 imm) w hw
 exact (o9 (d := .tup [(doS (m.at (u64 (m.pc + u64 (lenX 1 w dst src base disp imm cc)))) ⟨1, w, dst, src, base, disp, imm, cc⟩ ld).1.d, .int .i64 0]) ([.ret _ _ _ c0, tF, .ret _ _ _ c1, .inl] ++ List.replicate 23 tF ++ [tT, .ret _ _ _ c2, .tst _ true (in16 d0 d1), .putA _ _ _ _ (@put_regm m dst (cutM (IntKind.wrap IntKind.u64 imm) w) ((fT m (pcX m 1 w dst src base disp imm cc) [])) d0 d1)]) (by kernel_rfl))
theorem rexec_26_ok (m : MachS) (w dst src base disp imm cc ld : Int) (d0 : 0 ≤ dst) (d1 : dst ≤ 15) (s0 : 0 ≤ src) (s1 : src ≤ 15) (b0 : 0 ≤ base) (b1 : base ≤ 15) (hm : mayX 26 w dst src base disp imm cc = true) (hw : widthM w = true)  : Ret Tryz.prog 9 ([m.d, xD 26 w dst src base disp imm cc, .int .u64 ld]) (.tup [(doS (m.at (u64 (m.pc + u64 (lenX 26 w dst src base disp imm cc)))) ⟨26, w, dst, src, base, disp, imm, cc⟩ ld).1.d, .int .i64 0]) := by
 have c0 := @rmayX_ok 26 w dst src base disp imm cc
 rw [show (mayX 26 w dst src base disp imm cc) = true from hm] at c0
 have c1 := @rlen_ok 26 w dst src base disp imm cc (by decide)
 have c2 := @rcut_ok ld w hw
 exact (o9 (d := .tup [(doS (m.at (u64 (m.pc + u64 (lenX 26 w dst src base disp imm cc)))) ⟨26, w, dst, src, base, disp, imm, cc⟩ ld).1.d, .int .i64 0]) ([.ret _ _ _ c0, tF, .ret _ _ _ c1, .inl] ++ List.replicate 28 tF ++ [tT, .ret _ _ _ c2, .tst _ true (in16 d0 d1), .putA _ _ _ _ (@put_regm m dst (cutM ld w) ((fT m (pcX m 26 w dst src base disp imm cc) [])) d0 d1)]) (by kernel_rfl))
def SpR1d0 (k0_ : Int) : Prop := ∀ (m : MachS) (w dst src base disp imm cc ld : Int) (d0 : 0 ≤ dst) (d1 : dst ≤ 15) (s0 : 0 ≤ src) (s1 : src ≤ 15) (b0 : 0 ≤ base) (b1 : base ≤ 15) (hm : mayX k0_ w dst src base disp imm cc = true), Ret Tryz.prog 9 ([m.d, xD k0_ w dst src base disp imm cc, .int .u64 ld]) (.tup [(doS (m.at (u64 (m.pc + u64 (lenX k0_ w dst src base disp imm cc)))) ⟨k0_, w, dst, src, base, disp, imm, cc⟩ ld).1.d, .int .i64 0])
theorem rexec_27_ok : SpR1d0 27 := by
 intro m w dst src base disp imm cc ld d0 d1 s0 s1 b0 b1 hm
 have c0 := @rmayX_ok 27 w dst src base disp imm cc
 rw [show (mayX 27 w dst src base disp imm cc) = true from hm] at c0
 have c1 := @rlen_ok 27 w dst src base disp imm cc (by decide)
 exact (o9 (d := .tup [(doS (m.at (u64 (m.pc + u64 (lenX 27 w dst src base disp imm cc)))) ⟨27, w, dst, src, base, disp, imm, cc⟩ ld).1.d, .int .i64 0]) ([.ret _ _ _ c0, tF, .ret _ _ _ c1, .inl] ++ List.replicate 32 tF) (by kernel_rfl))
theorem rexec_28_ok : SpR1d0 28 := by
 intro m w dst src base disp imm cc ld d0 d1 s0 s1 b0 b1 hm
 have c0 := @rmayX_ok 28 w dst src base disp imm cc
 rw [show (mayX 28 w dst src base disp imm cc) = true from hm] at c0
 have c1 := @rlen_ok 28 w dst src base disp imm cc (by decide)
 exact (o9 (d := .tup [(doS (m.at (u64 (m.pc + u64 (lenX 28 w dst src base disp imm cc)))) ⟨28, w, dst, src, base, disp, imm, cc⟩ ld).1.d, .int .i64 0]) ([.ret _ _ _ c0, tF, .ret _ _ _ c1, .inl] ++ List.replicate 29 tF ++ [tT]) (by kernel_rfl))
theorem rexec_30_ok : SpR1d0 30 := by
 intro m w dst src base disp imm cc ld d0 d1 s0 s1 b0 b1 hm
 have c0 := @rmayX_ok 30 w dst src base disp imm cc
 rw [show (mayX 30 w dst src base disp imm cc) = true from hm] at c0
 have c1 := @rlen_ok 30 w dst src base disp imm cc (by decide)
 exact (o9 (d := .tup [(doS (m.at (u64 (m.pc + u64 (lenX 30 w dst src base disp imm cc)))) ⟨30, w, dst, src, base, disp, imm, cc⟩ ld).1.d, .int .i64 0]) ([.ret _ _ _ c0, tF, .ret _ _ _ c1, .inl] ++ List.replicate 30 tF ++ [tT]) (by kernel_rfl))
theorem rexec_31_ok : SpR1d0 31 := by
 intro m w dst src base disp imm cc ld d0 d1 s0 s1 b0 b1 hm
 have c0 := @rmayX_ok 31 w dst src base disp imm cc
 rw [show (mayX 31 w dst src base disp imm cc) = true from hm] at c0
 have c1 := @rlen_ok 31 w dst src base disp imm cc (by decide)
 exact (o9 (d := .tup [(doS (m.at (u64 (m.pc + u64 (lenX 31 w dst src base disp imm cc)))) ⟨31, w, dst, src, base, disp, imm, cc⟩ ld).1.d, .int .i64 0]) ([.ret _ _ _ c0, tF, .ret _ _ _ c1, .inl] ++ List.replicate 31 tF ++ [tT]) (by kernel_rfl))
end Go.Proofs.YtojgmjfcfpclbaaGreat

namespace Go.Proofs.YtojgmjfcfpclbaaGreat
open Go Go.Ev
set_option maxRecDepth 100000
set_option maxHeartbeats 8000000
theorem rexec_24_ok (q0 q1 q2 q3 q4 q5 q6 q7 q8 q9 q10 q11 q12 q13 q14 q15 at' : Int) (fk fc fz fs fo : Bool) (w dst src base disp imm cc ld : Int) (d0 : 0 ≤ dst) (d1 : dst ≤ 15) (s0 : 0 ≤ src) (s1 : src ≤ 15) (b0 : 0 ≤ base) (b1 : base ≤ 15) (hm : mayX 24 w dst src base disp imm cc = true) (hw : longM w = true) (hd : (cutM (rg [q0, q1, q2, q3, q4, q5, q6, q7, q8, q9, q10, q11, q12, q13, q14, q15] dst) w == 0) = false) (hz : (cutM q2 w == 0) = true) : Ret Tryz.prog 9 ([.agg [.int .u64 q0, .int .u64 q1, .int .u64 q2, .int .u64 q3, .int .u64 q4, .int .u64 q5, .int .u64 q6, .int .u64 q7, .int .u64 q8, .int .u64 q9, .int .u64 q10, .int .u64 q11, .int .u64 q12, .int .u64 q13, .int .u64 q14, .int .u64 q15, .bool fk, .bool fc, .bool fz, .bool fs, .bool fo, .int .u64 (at')], xD 24 w dst src base disp imm cc, .int .u64 ld]) (.tup [.agg [.int .u64 (u64 ((cutM q0 w).tdiv (cutM (rg [q0, q1, q2, q3, q4, q5, q6, q7, q8, q9, q10, q11, q12, q13, q14, q15] dst) w))), .int .u64 q1, .int .u64 ((cutM q0 w).tmod (cutM (rg [q0, q1, q2, q3, q4, q5, q6, q7, q8, q9, q10, q11, q12, q13, q14, q15] dst) w)), .int .u64 q3, .int .u64 q4, .int .u64 q5, .int .u64 q6, .int .u64 q7, .int .u64 q8, .int .u64 q9, .int .u64 q10, .int .u64 q11, .int .u64 q12, .int .u64 q13, .int .u64 q14, .int .u64 q15, .bool false, .bool false, .bool false, .bool false, .bool false, .int .u64 (u64 (at' + u64 (lenX 24 w dst src base disp imm cc)))], .int .i64 0]) := by
 have c0 := @rmayX_ok 24 w dst src base disp imm cc
 rw [hm] at c0
 have c1 := @rlen_ok 24 w dst src base disp imm cc (by decide)
 have c2 := @rcut_l_ok (rg [q0, q1, q2, q3, q4, q5, q6, q7, q8, q9, q10, q11, q12, q13, q14, q15] dst) w hw
 have c3 := @rcut_l_ok q2 w hw
 have c4 := @rcut_l_ok q0 w hw
 have c5 := @rnone_ok
 exact (o9 (d := .tup [.agg [.int .u64 (IntKind.wrap IntKind.u64 (Int.tdiv (cutM q0 w) (cutM (rg [q0, q1, q2, q3, q4, q5, q6, q7, q8, q9, q10, q11, q12, q13, q14, q15] dst) w))), .int .u64 q1, .int .u64 (Int.tmod (cutM q0 w) (cutM (rg [q0, q1, q2, q3, q4, q5, q6, q7, q8, q9, q10, q11, q12, q13, q14, q15] dst) w)), .int .u64 q3, .int .u64 q4, .int .u64 q5, .int .u64 q6, .int .u64 q7, .int .u64 q8, .int .u64 q9, .int .u64 q10, .int .u64 q11, .int .u64 q12, .int .u64 q13, .int .u64 q14, .int .u64 q15, .bool false, .bool false, .bool false, .bool false, .bool false, .int .u64 (IntKind.wrap IntKind.u64 (at' + IntKind.wrap IntKind.u64 (lenX 24 w dst src base disp imm cc)))], .int .i64 0]) ([.ret _ _ _ c0, tF, .ret _ _ _ c1, .inl] ++ List.replicate 25 tF ++ [tT, .tst (decide (0 ≤ dst ∧ dst < (↑(16 : Nat) : Int))) true (by (simp only [sl2] at *; omega)), .get _ _ _ (@get_reg q0 q1 q2 q3 q4 q5 q6 q7 q8 q9 q10 q11 q12 q13 q14 q15 dst ([.bool fk, .bool fc, .bool fz, .bool fs, .bool fo, .int .u64 (IntKind.wrap IntKind.u64 (at' + IntKind.wrap IntKind.u64 (lenX 24 w dst src base disp imm cc)))]) d0 d1), .ret _ _ _ c2, .ret _ _ _ c3, tC (eF (nt (eqI 0 true (eq_of_beq hz)))), tC (eF (nt (eqI 0 true (eq_of_beq hz)))), tC (nt (eqI 0 true (eq_of_beq hz))), tC hd, .ret _ _ _ c4, tC (v := true) (neD hd), tC (v := true) (neD hd), .ret _ _ _ c5]) (by kernel_rfl)).to (by first | ((simp only [wk, wkL, and_true]; repeat' (first | rfl | exact True.intro | apply And.intro)); done) | (simp [wk, wkL, u64, ]; done))
theorem rexec_24f_ok (q0 q1 q2 q3 q4 q5 q6 q7 q8 q9 q10 q11 q12 q13 q14 q15 at' : Int) (fk fc fz fs fo : Bool) (w dst src base disp imm cc ld : Int) (d0 : 0 ≤ dst) (d1 : dst ≤ 15) (s0 : 0 ≤ src) (s1 : src ≤ 15) (b0 : 0 ≤ base) (b1 : base ≤ 15) (hm : mayX 24 w dst src base disp imm cc = true) (hw : longM w = true) (hd : (cutM (rg [q0, q1, q2, q3, q4, q5, q6, q7, q8, q9, q10, q11, q12, q13, q14, q15] dst) w == 0) = true) : Ret Tryz.prog 9 ([.agg [.int .u64 q0, .int .u64 q1, .int .u64 q2, .int .u64 q3, .int .u64 q4, .int .u64 q5, .int .u64 q6, .int .u64 q7, .int .u64 q8, .int .u64 q9, .int .u64 q10, .int .u64 q11, .int .u64 q12, .int .u64 q13, .int .u64 q14, .int .u64 q15, .bool fk, .bool fc, .bool fz, .bool fs, .bool fo, .int .u64 (at')], xD 24 w dst src base disp imm cc, .int .u64 ld]) (.tup [.agg [.int .u64 (0), .int .u64 (0), .int .u64 (0), .int .u64 (0), .int .u64 (0), .int .u64 (0), .int .u64 (0), .int .u64 (0), .int .u64 (0), .int .u64 (0), .int .u64 (0), .int .u64 (0), .int .u64 (0), .int .u64 (0), .int .u64 (0), .int .u64 (0), .bool false, .bool false, .bool false, .bool false, .bool false, .int .u64 (0)], .int .i64 20]) := by
 have c0 := @rmayX_ok 24 w dst src base disp imm cc
 rw [hm] at c0
 have c1 := @rlen_ok 24 w dst src base disp imm cc (by decide)
 have c2 := @rcut_l_ok (rg [q0, q1, q2, q3, q4, q5, q6, q7, q8, q9, q10, q11, q12, q13, q14, q15] dst) w hw
 have c3 := @rcut_l_ok q2 w hw
 let E1 : EL := ([.ret _ _ _ c0, tF, .ret _ _ _ c1, .inl] ++ List.replicate 25 tF ++ [tT, .tst (decide (0 ≤ dst ∧ dst < (↑(16 : Nat) : Int))) true (by (simp only [sl2] at *; omega)), .get _ _ _ (@get_reg q0 q1 q2 q3 q4 q5 q6 q7 q8 q9 q10 q11 q12 q13 q14 q15 dst ([.bool fk, .bool fc, .bool fz, .bool fs, .bool fo, .int .u64 (IntKind.wrap IntKind.u64 (at' + IntKind.wrap IntKind.u64 (lenX 24 w dst src base disp imm cc)))]) d0 d1), .ret _ _ _ c2, .ret _ _ _ c3])
 by_cases h4 : cutM q2 w = 0
 ·exact (o9 (d := .tup [.agg [.int .u64 0, .int .u64 0, .int .u64 0, .int .u64 0, .int .u64 0, .int .u64 0, .int .u64 0, .int .u64 0, .int .u64 0, .int .u64 0, .int .u64 0, .int .u64 0, .int .u64 0, .int .u64 0, .int .u64 0, .int .u64 0, .bool false, .bool false, .bool false, .bool false, .bool false, .int .u64 0], .int .i64 20]) (E1 ++ [tC (eF (nt (eqI 0 true h4))), tC (eF (nt (eqI 0 true h4))), tC (nt (eqI 0 true h4)), tC (eqI 0 true (eq_of_beq hd))]) (by kernel_rfl)).to (by clear E1; first | ((simp only [wk, wkL, and_true]; repeat' (first | rfl | exact True.intro | apply And.intro)); done) | (simp [wk, wkL, u64, h4]; done))
 exact (o9 (d := .tup [.agg [.int .u64 0, .int .u64 0, .int .u64 0, .int .u64 0, .int .u64 0, .int .u64 0, .int .u64 0, .int .u64 0, .int .u64 0, .int .u64 0, .int .u64 0, .int .u64 0, .int .u64 0, .int .u64 0, .int .u64 0, .int .u64 0, .bool false, .bool false, .bool false, .bool false, .bool false, .int .u64 0], .int .i64 20]) (E1 ++ [tC (eF (nt (neOf h4))), tC (eF (nt (neOf h4))), tC (nt (neOf h4)), tT]) (by kernel_rfl)).to (by clear E1; first | ((simp only [wk, wkL, and_true]; repeat' (first | rfl | exact True.intro | apply And.intro)); done) | (simp [wk, wkL, u64, h4]; done))
theorem rexec_24g_ok (q0 q1 q2 q3 q4 q5 q6 q7 q8 q9 q10 q11 q12 q13 q14 q15 at' : Int) (fk fc fz fs fo : Bool) (w dst src base disp imm cc ld : Int) (d0 : 0 ≤ dst) (d1 : dst ≤ 15) (s0 : 0 ≤ src) (s1 : src ≤ 15) (b0 : 0 ≤ base) (b1 : base ≤ 15) (hm : mayX 24 w dst src base disp imm cc = true) (hw : longM w = true) (hd : (cutM (rg [q0, q1, q2, q3, q4, q5, q6, q7, q8, q9, q10, q11, q12, q13, q14, q15] dst) w == 0) = false) (hz : (cutM q2 w == 0) = false) : Ret Tryz.prog 9 ([.agg [.int .u64 q0, .int .u64 q1, .int .u64 q2, .int .u64 q3, .int .u64 q4, .int .u64 q5, .int .u64 q6, .int .u64 q7, .int .u64 q8, .int .u64 q9, .int .u64 q10, .int .u64 q11, .int .u64 q12, .int .u64 q13, .int .u64 q14, .int .u64 q15, .bool fk, .bool fc, .bool fz, .bool fs, .bool fo, .int .u64 (at')], xD 24 w dst src base disp imm cc, .int .u64 ld]) (.tup [.agg [.int .u64 (0), .int .u64 (0), .int .u64 (0), .int .u64 (0), .int .u64 (0), .int .u64 (0), .int .u64 (0), .int .u64 (0), .int .u64 (0), .int .u64 (0), .int .u64 (0), .int .u64 (0), .int .u64 (0), .int .u64 (0), .int .u64 (0), .int .u64 (0), .bool false, .bool false, .bool false, .bool false, .bool false, .int .u64 (0)], .int .i64 20]) := by
 have c0 := @rmayX_ok 24 w dst src base disp imm cc
 rw [hm] at c0
 have c1 := @rlen_ok 24 w dst src base disp imm cc (by decide)
 have c2 := @rcut_l_ok (rg [q0, q1, q2, q3, q4, q5, q6, q7, q8, q9, q10, q11, q12, q13, q14, q15] dst) w hw
 have c3 := @rcut_l_ok q2 w hw
 exact (o9 (d := .tup [.agg [.int .u64 0, .int .u64 0, .int .u64 0, .int .u64 0, .int .u64 0, .int .u64 0, .int .u64 0, .int .u64 0, .int .u64 0, .int .u64 0, .int .u64 0, .int .u64 0, .int .u64 0, .int .u64 0, .int .u64 0, .int .u64 0, .bool false, .bool false, .bool false, .bool false, .bool false, .int .u64 0], .int .i64 20]) ([.ret _ _ _ c0, tF, .ret _ _ _ c1, .inl] ++ List.replicate 25 tF ++ [tT, .tst (decide (0 ≤ dst ∧ dst < (↑(16 : Nat) : Int))) true (by (simp only [sl2] at *; omega)), .get _ _ _ (@get_reg q0 q1 q2 q3 q4 q5 q6 q7 q8 q9 q10 q11 q12 q13 q14 q15 dst ([.bool fk, .bool fc, .bool fz, .bool fs, .bool fo, .int .u64 (IntKind.wrap IntKind.u64 (at' + IntKind.wrap IntKind.u64 (lenX 24 w dst src base disp imm cc)))]) d0 d1), .ret _ _ _ c2, .ret _ _ _ c3, tC (eF (nt hz)), tC (eF (nt hz)), tC (nt hz), tT]) (by kernel_rfl)).to (by first | ((simp only [wk, wkL, and_true]; repeat' (first | rfl | exact True.intro | apply And.intro)); done) | (simp [wk, wkL, u64, ]; done))
theorem rexec_25_ok (q0 q1 q2 q3 q4 q5 q6 q7 q8 q9 q10 q11 q12 q13 q14 q15 at' : Int) (fc fz fs fo : Bool) (w dst src base disp imm cc ld : Int) (d0 : 0 ≤ dst) (d1 : dst ≤ 15) (s0 : 0 ≤ src) (s1 : src ≤ 15) (b0 : 0 ≤ base) (b1 : base ≤ 15) (hm : mayX 25 w dst src base disp imm cc = true) (hw : longM w = true) (hcc : ccM cc = true) : Ret Tryz.prog 9 ([.agg [.int .u64 q0, .int .u64 q1, .int .u64 q2, .int .u64 q3, .int .u64 q4, .int .u64 q5, .int .u64 q6, .int .u64 q7, .int .u64 q8, .int .u64 q9, .int .u64 q10, .int .u64 q11, .int .u64 q12, .int .u64 q13, .int .u64 q14, .int .u64 q15, .bool true, .bool fc, .bool fz, .bool fs, .bool fo, .int .u64 (at')], xD 25 w dst src base disp imm cc, .int .u64 ld]) (.tup [.agg [.int .u64 (st 0 dst (cutM (if holdM cc fc fz fs fo then rg [q0, q1, q2, q3, q4, q5, q6, q7, q8, q9, q10, q11, q12, q13, q14, q15] src else rg [q0, q1, q2, q3, q4, q5, q6, q7, q8, q9, q10, q11, q12, q13, q14, q15] dst) w) q0), .int .u64 (st 1 dst (cutM (if holdM cc fc fz fs fo then rg [q0, q1, q2, q3, q4, q5, q6, q7, q8, q9, q10, q11, q12, q13, q14, q15] src else rg [q0, q1, q2, q3, q4, q5, q6, q7, q8, q9, q10, q11, q12, q13, q14, q15] dst) w) q1), .int .u64 (st 2 dst (cutM (if holdM cc fc fz fs fo then rg [q0, q1, q2, q3, q4, q5, q6, q7, q8, q9, q10, q11, q12, q13, q14, q15] src else rg [q0, q1, q2, q3, q4, q5, q6, q7, q8, q9, q10, q11, q12, q13, q14, q15] dst) w) q2), .int .u64 (st 3 dst (cutM (if holdM cc fc fz fs fo then rg [q0, q1, q2, q3, q4, q5, q6, q7, q8, q9, q10, q11, q12, q13, q14, q15] src else rg [q0, q1, q2, q3, q4, q5, q6, q7, q8, q9, q10, q11, q12, q13, q14, q15] dst) w) q3), .int .u64 (st 4 dst (cutM (if holdM cc fc fz fs fo then rg [q0, q1, q2, q3, q4, q5, q6, q7, q8, q9, q10, q11, q12, q13, q14, q15] src else rg [q0, q1, q2, q3, q4, q5, q6, q7, q8, q9, q10, q11, q12, q13, q14, q15] dst) w) q4), .int .u64 (st 5 dst (cutM (if holdM cc fc fz fs fo then rg [q0, q1, q2, q3, q4, q5, q6, q7, q8, q9, q10, q11, q12, q13, q14, q15] src else rg [q0, q1, q2, q3, q4, q5, q6, q7, q8, q9, q10, q11, q12, q13, q14, q15] dst) w) q5), .int .u64 (st 6 dst (cutM (if holdM cc fc fz fs fo then rg [q0, q1, q2, q3, q4, q5, q6, q7, q8, q9, q10, q11, q12, q13, q14, q15] src else rg [q0, q1, q2, q3, q4, q5, q6, q7, q8, q9, q10, q11, q12, q13, q14, q15] dst) w) q6), .int .u64 (st 7 dst (cutM (if holdM cc fc fz fs fo then rg [q0, q1, q2, q3, q4, q5, q6, q7, q8, q9, q10, q11, q12, q13, q14, q15] src else rg [q0, q1, q2, q3, q4, q5, q6, q7, q8, q9, q10, q11, q12, q13, q14, q15] dst) w) q7), .int .u64 (st 8 dst (cutM (if holdM cc fc fz fs fo then rg [q0, q1, q2, q3, q4, q5, q6, q7, q8, q9, q10, q11, q12, q13, q14, q15] src else rg [q0, q1, q2, q3, q4, q5, q6, q7, q8, q9, q10, q11, q12, q13, q14, q15] dst) w) q8), .int .u64 (st 9 dst (cutM (if holdM cc fc fz fs fo then rg [q0, q1, q2, q3, q4, q5, q6, q7, q8, q9, q10, q11, q12, q13, q14, q15] src else rg [q0, q1, q2, q3, q4, q5, q6, q7, q8, q9, q10, q11, q12, q13, q14, q15] dst) w) q9), .int .u64 (st 10 dst (cutM (if holdM cc fc fz fs fo then rg [q0, q1, q2, q3, q4, q5, q6, q7, q8, q9, q10, q11, q12, q13, q14, q15] src else rg [q0, q1, q2, q3, q4, q5, q6, q7, q8, q9, q10, q11, q12, q13, q14, q15] dst) w) q10), .int .u64 (st 11 dst (cutM (if holdM cc fc fz fs fo then rg [q0, q1, q2, q3, q4, q5, q6, q7, q8, q9, q10, q11, q12, q13, q14, q15] src else rg [q0, q1, q2, q3, q4, q5, q6, q7, q8, q9, q10, q11, q12, q13, q14, q15] dst) w) q11), .int .u64 (st 12 dst (cutM (if holdM cc fc fz fs fo then rg [q0, q1, q2, q3, q4, q5, q6, q7, q8, q9, q10, q11, q12, q13, q14, q15] src else rg [q0, q1, q2, q3, q4, q5, q6, q7, q8, q9, q10, q11, q12, q13, q14, q15] dst) w) q12), .int .u64 (st 13 dst (cutM (if holdM cc fc fz fs fo then rg [q0, q1, q2, q3, q4, q5, q6, q7, q8, q9, q10, q11, q12, q13, q14, q15] src else rg [q0, q1, q2, q3, q4, q5, q6, q7, q8, q9, q10, q11, q12, q13, q14, q15] dst) w) q13), .int .u64 (st 14 dst (cutM (if holdM cc fc fz fs fo then rg [q0, q1, q2, q3, q4, q5, q6, q7, q8, q9, q10, q11, q12, q13, q14, q15] src else rg [q0, q1, q2, q3, q4, q5, q6, q7, q8, q9, q10, q11, q12, q13, q14, q15] dst) w) q14), .int .u64 (st 15 dst (cutM (if holdM cc fc fz fs fo then rg [q0, q1, q2, q3, q4, q5, q6, q7, q8, q9, q10, q11, q12, q13, q14, q15] src else rg [q0, q1, q2, q3, q4, q5, q6, q7, q8, q9, q10, q11, q12, q13, q14, q15] dst) w) q15), .bool true, .bool fc, .bool fz, .bool fs, .bool fo, .int .u64 (u64 (at' + u64 (lenX 25 w dst src base disp imm cc)))], .int .i64 0]) := by
 have c0 := @rmayX_ok 25 w dst src base disp imm cc
 rw [hm] at c0
 have c1 := @rlen_ok 25 w dst src base disp imm cc (by decide)
 have c2 := @rholds_t_ok cc fc fz fs fo hcc
 let E1 : EL := ([.ret _ _ _ c0, tF, .ret _ _ _ c1, .inl] ++ List.replicate 26 tF ++ [tT, tT, .ret _ _ _ c2, tF, tF, tF, tF, tT, .tst (decide (0 ≤ dst ∧ dst < (↑(16 : Nat) : Int))) true (by (simp only [sl2] at *; omega)), .get _ _ _ (@get_reg q0 q1 q2 q3 q4 q5 q6 q7 q8 q9 q10 q11 q12 q13 q14 q15 dst ([.bool true, .bool fc, .bool fz, .bool fs, .bool fo, .int .u64 (IntKind.wrap IntKind.u64 (at' + IntKind.wrap IntKind.u64 (lenX 25 w dst src base disp imm cc)))]) d0 d1)])
 rcases bft (holdM cc fc fz fs fo) with h3 | h3
 ·have c4 := @rcut_l_ok (rg [q0, q1, q2, q3, q4, q5, q6, q7, q8, q9, q10, q11, q12, q13, q14, q15] src) w hw
  exact (o9 (d := .tup [.agg [.int .u64 (st 0 dst (cutM (rg [q0, q1, q2, q3, q4, q5, q6, q7, q8, q9, q10, q11, q12, q13, q14, q15] src) w) q0), .int .u64 (st 1 dst (cutM (rg [q0, q1, q2, q3, q4, q5, q6, q7, q8, q9, q10, q11, q12, q13, q14, q15] src) w) q1), .int .u64 (st 2 dst (cutM (rg [q0, q1, q2, q3, q4, q5, q6, q7, q8, q9, q10, q11, q12, q13, q14, q15] src) w) q2), .int .u64 (st 3 dst (cutM (rg [q0, q1, q2, q3, q4, q5, q6, q7, q8, q9, q10, q11, q12, q13, q14, q15] src) w) q3), .int .u64 (st 4 dst (cutM (rg [q0, q1, q2, q3, q4, q5, q6, q7, q8, q9, q10, q11, q12, q13, q14, q15] src) w) q4), .int .u64 (st 5 dst (cutM (rg [q0, q1, q2, q3, q4, q5, q6, q7, q8, q9, q10, q11, q12, q13, q14, q15] src) w) q5), .int .u64 (st 6 dst (cutM (rg [q0, q1, q2, q3, q4, q5, q6, q7, q8, q9, q10, q11, q12, q13, q14, q15] src) w) q6), .int .u64 (st 7 dst (cutM (rg [q0, q1, q2, q3, q4, q5, q6, q7, q8, q9, q10, q11, q12, q13, q14, q15] src) w) q7), .int .u64 (st 8 dst (cutM (rg [q0, q1, q2, q3, q4, q5, q6, q7, q8, q9, q10, q11, q12, q13, q14, q15] src) w) q8), .int .u64 (st 9 dst (cutM (rg [q0, q1, q2, q3, q4, q5, q6, q7, q8, q9, q10, q11, q12, q13, q14, q15] src) w) q9), .int .u64 (st 10 dst (cutM (rg [q0, q1, q2, q3, q4, q5, q6, q7, q8, q9, q10, q11, q12, q13, q14, q15] src) w) q10), .int .u64 (st 11 dst (cutM (rg [q0, q1, q2, q3, q4, q5, q6, q7, q8, q9, q10, q11, q12, q13, q14, q15] src) w) q11), .int .u64 (st 12 dst (cutM (rg [q0, q1, q2, q3, q4, q5, q6, q7, q8, q9, q10, q11, q12, q13, q14, q15] src) w) q12), .int .u64 (st 13 dst (cutM (rg [q0, q1, q2, q3, q4, q5, q6, q7, q8, q9, q10, q11, q12, q13, q14, q15] src) w) q13), .int .u64 (st 14 dst (cutM (rg [q0, q1, q2, q3, q4, q5, q6, q7, q8, q9, q10, q11, q12, q13, q14, q15] src) w) q14), .int .u64 (st 15 dst (cutM (rg [q0, q1, q2, q3, q4, q5, q6, q7, q8, q9, q10, q11, q12, q13, q14, q15] src) w) q15), .bool true, .bool fc, .bool fz, .bool fs, .bool fo, .int .u64 (IntKind.wrap IntKind.u64 (at' + IntKind.wrap IntKind.u64 (lenX 25 w dst src base disp imm cc)))], .int .i64 0]) (E1 ++ [tC h3, .tst (decide (0 ≤ src ∧ src < (↑(16 : Nat) : Int))) true (by (simp only [sl2] at *; omega)), .get _ _ _ (@get_reg q0 q1 q2 q3 q4 q5 q6 q7 q8 q9 q10 q11 q12 q13 q14 q15 src ([.bool true, .bool fc, .bool fz, .bool fs, .bool fo, .int .u64 (IntKind.wrap IntKind.u64 (at' + IntKind.wrap IntKind.u64 (lenX 25 w dst src base disp imm cc)))]) s0 s1), .ret _ _ _ c4, .tst (decide (0 ≤ dst ∧ dst < (↑(16 : Nat) : Int))) true (by (simp only [sl2] at *; omega)), .putA _ _ _ _ (@put_reg q0 q1 q2 q3 q4 q5 q6 q7 q8 q9 q10 q11 q12 q13 q14 q15 dst (cutM (rg [q0, q1, q2, q3, q4, q5, q6, q7, q8, q9, q10, q11, q12, q13, q14, q15] src) w) ([.bool true, .bool fc, .bool fz, .bool fs, .bool fo, .int .u64 (IntKind.wrap IntKind.u64 (at' + IntKind.wrap IntKind.u64 (lenX 25 w dst src base disp imm cc)))]) d0 d1)]) (by kernel_rfl)).to (by clear E1; first | ((simp only [wk, wkL, and_true]; repeat' (first | rfl | exact True.intro | apply And.intro)); done) | (simp [wk, wkL, u64, h3]; done))
 have c5 := @rcut_l_ok (rg [q0, q1, q2, q3, q4, q5, q6, q7, q8, q9, q10, q11, q12, q13, q14, q15] dst) w hw
 exact (o9 (d := .tup [.agg [.int .u64 (st 0 dst (cutM (rg [q0, q1, q2, q3, q4, q5, q6, q7, q8, q9, q10, q11, q12, q13, q14, q15] dst) w) q0), .int .u64 (st 1 dst (cutM (rg [q0, q1, q2, q3, q4, q5, q6, q7, q8, q9, q10, q11, q12, q13, q14, q15] dst) w) q1), .int .u64 (st 2 dst (cutM (rg [q0, q1, q2, q3, q4, q5, q6, q7, q8, q9, q10, q11, q12, q13, q14, q15] dst) w) q2), .int .u64 (st 3 dst (cutM (rg [q0, q1, q2, q3, q4, q5, q6, q7, q8, q9, q10, q11, q12, q13, q14, q15] dst) w) q3), .int .u64 (st 4 dst (cutM (rg [q0, q1, q2, q3, q4, q5, q6, q7, q8, q9, q10, q11, q12, q13, q14, q15] dst) w) q4), .int .u64 (st 5 dst (cutM (rg [q0, q1, q2, q3, q4, q5, q6, q7, q8, q9, q10, q11, q12, q13, q14, q15] dst) w) q5), .int .u64 (st 6 dst (cutM (rg [q0, q1, q2, q3, q4, q5, q6, q7, q8, q9, q10, q11, q12, q13, q14, q15] dst) w) q6), .int .u64 (st 7 dst (cutM (rg [q0, q1, q2, q3, q4, q5, q6, q7, q8, q9, q10, q11, q12, q13, q14, q15] dst) w) q7), .int .u64 (st 8 dst (cutM (rg [q0, q1, q2, q3, q4, q5, q6, q7, q8, q9, q10, q11, q12, q13, q14, q15] dst) w) q8), .int .u64 (st 9 dst (cutM (rg [q0, q1, q2, q3, q4, q5, q6, q7, q8, q9, q10, q11, q12, q13, q14, q15] dst) w) q9), .int .u64 (st 10 dst (cutM (rg [q0, q1, q2, q3, q4, q5, q6, q7, q8, q9, q10, q11, q12, q13, q14, q15] dst) w) q10), .int .u64 (st 11 dst (cutM (rg [q0, q1, q2, q3, q4, q5, q6, q7, q8, q9, q10, q11, q12, q13, q14, q15] dst) w) q11), .int .u64 (st 12 dst (cutM (rg [q0, q1, q2, q3, q4, q5, q6, q7, q8, q9, q10, q11, q12, q13, q14, q15] dst) w) q12), .int .u64 (st 13 dst (cutM (rg [q0, q1, q2, q3, q4, q5, q6, q7, q8, q9, q10, q11, q12, q13, q14, q15] dst) w) q13), .int .u64 (st 14 dst (cutM (rg [q0, q1, q2, q3, q4, q5, q6, q7, q8, q9, q10, q11, q12, q13, q14, q15] dst) w) q14), .int .u64 (st 15 dst (cutM (rg [q0, q1, q2, q3, q4, q5, q6, q7, q8, q9, q10, q11, q12, q13, q14, q15] dst) w) q15), .bool true, .bool fc, .bool fz, .bool fs, .bool fo, .int .u64 (IntKind.wrap IntKind.u64 (at' + IntKind.wrap IntKind.u64 (lenX 25 w dst src base disp imm cc)))], .int .i64 0]) (E1 ++ [tC h3, .ret _ _ _ c5, .tst (decide (0 ≤ dst ∧ dst < (↑(16 : Nat) : Int))) true (by (simp only [sl2] at *; omega)), .putA _ _ _ _ (@put_reg q0 q1 q2 q3 q4 q5 q6 q7 q8 q9 q10 q11 q12 q13 q14 q15 dst (cutM (rg [q0, q1, q2, q3, q4, q5, q6, q7, q8, q9, q10, q11, q12, q13, q14, q15] dst) w) ([.bool true, .bool fc, .bool fz, .bool fs, .bool fo, .int .u64 (IntKind.wrap IntKind.u64 (at' + IntKind.wrap IntKind.u64 (lenX 25 w dst src base disp imm cc)))]) d0 d1)]) (by kernel_rfl)).to (by clear E1; first | ((simp only [wk, wkL, and_true]; repeat' (first | rfl | exact True.intro | apply And.intro)); done) | (simp [wk, wkL, u64, h3]; done))
theorem rexec_25f_ok (q0 q1 q2 q3 q4 q5 q6 q7 q8 q9 q10 q11 q12 q13 q14 q15 at' : Int) (fc fz fs fo : Bool) (w dst src base disp imm cc ld : Int) (d0 : 0 ≤ dst) (d1 : dst ≤ 15) (s0 : 0 ≤ src) (s1 : src ≤ 15) (b0 : 0 ≤ base) (b1 : base ≤ 15) (hm : mayX 25 w dst src base disp imm cc = true) (hw : longM w = true) (hcc : ccM cc = true) : Ret Tryz.prog 9 ([.agg [.int .u64 q0, .int .u64 q1, .int .u64 q2, .int .u64 q3, .int .u64 q4, .int .u64 q5, .int .u64 q6, .int .u64 q7, .int .u64 q8, .int .u64 q9, .int .u64 q10, .int .u64 q11, .int .u64 q12, .int .u64 q13, .int .u64 q14, .int .u64 q15, .bool false, .bool fc, .bool fz, .bool fs, .bool fo, .int .u64 (at')], xD 25 w dst src base disp imm cc, .int .u64 ld]) (.tup [.agg [.int .u64 (0), .int .u64 (0), .int .u64 (0), .int .u64 (0), .int .u64 (0), .int .u64 (0), .int .u64 (0), .int .u64 (0), .int .u64 (0), .int .u64 (0), .int .u64 (0), .int .u64 (0), .int .u64 (0), .int .u64 (0), .int .u64 (0), .int .u64 (0), .bool false, .bool false, .bool false, .bool false, .bool false, .int .u64 (0)], .int .i64 20]) := by
 have c0 := @rmayX_ok 25 w dst src base disp imm cc
 rw [hm] at c0
 have c1 := @rlen_ok 25 w dst src base disp imm cc (by decide)
 have c2 := @rholds_f_ok cc fc fz fs fo hcc
 exact (o9 (d := .tup [.agg [.int .u64 0, .int .u64 0, .int .u64 0, .int .u64 0, .int .u64 0, .int .u64 0, .int .u64 0, .int .u64 0, .int .u64 0, .int .u64 0, .int .u64 0, .int .u64 0, .int .u64 0, .int .u64 0, .int .u64 0, .int .u64 0, .bool false, .bool false, .bool false, .bool false, .bool false, .int .u64 0], .int .i64 20]) ([.ret _ _ _ c0, tF, .ret _ _ _ c1, .inl] ++ List.replicate 26 tF ++ [tT, tT, .ret _ _ _ c2, tT]) (by kernel_rfl)).to (by first | ((simp only [wk, wkL, and_true]; repeat' (first | rfl | exact True.intro | apply And.intro)); done) | (simp [wk, wkL, u64, ]; done))
theorem rexec_29_ok (q0 q1 q2 q3 q4 q5 q6 q7 q8 q9 q10 q11 q12 q13 q14 q15 at' : Int) (fc fz fs fo : Bool) (w dst src base disp imm cc ld : Int) (d0 : 0 ≤ dst) (d1 : dst ≤ 15) (s0 : 0 ≤ src) (s1 : src ≤ 15) (b0 : 0 ≤ base) (b1 : base ≤ 15) (hm : mayX 29 w dst src base disp imm cc = true) (hcc : ccM cc = true) : Ret Tryz.prog 9 ([.agg [.int .u64 q0, .int .u64 q1, .int .u64 q2, .int .u64 q3, .int .u64 q4, .int .u64 q5, .int .u64 q6, .int .u64 q7, .int .u64 q8, .int .u64 q9, .int .u64 q10, .int .u64 q11, .int .u64 q12, .int .u64 q13, .int .u64 q14, .int .u64 q15, .bool true, .bool fc, .bool fz, .bool fs, .bool fo, .int .u64 (at')], xD 29 w dst src base disp imm cc, .int .u64 ld]) (.tup [.agg [.int .u64 q0, .int .u64 q1, .int .u64 q2, .int .u64 q3, .int .u64 q4, .int .u64 q5, .int .u64 q6, .int .u64 q7, .int .u64 q8, .int .u64 q9, .int .u64 q10, .int .u64 q11, .int .u64 q12, .int .u64 q13, .int .u64 q14, .int .u64 q15, .bool true, .bool fc, .bool fz, .bool fs, .bool fo, .int .u64 (if holdM cc fc fz fs fo then u64 (u64 (at' + u64 (lenX 29 w dst src base disp imm cc)) + u64 imm) else u64 (at' + u64 (lenX 29 w dst src base disp imm cc)))], .int .i64 0]) := by
 have c0 := @rmayX_ok 29 w dst src base disp imm cc
 rw [hm] at c0
 have c1 := @rlen_ok 29 w dst src base disp imm cc (by decide)
 have c2 := @rholds_t_ok cc fc fz fs fo hcc
 let E1 : EL := ([.ret _ _ _ c0, tF, .ret _ _ _ c1, .inl] ++ List.replicate 27 tF ++ [tT, .ret _ _ _ c2, tF, tT, tT])
 rcases bft (holdM cc fc fz fs fo) with h3 | h3
 ·exact (o9 (d := .tup [.agg [.int .u64 q0, .int .u64 q1, .int .u64 q2, .int .u64 q3, .int .u64 q4, .int .u64 q5, .int .u64 q6, .int .u64 q7, .int .u64 q8, .int .u64 q9, .int .u64 q10, .int .u64 q11, .int .u64 q12, .int .u64 q13, .int .u64 q14, .int .u64 q15, .bool true, .bool fc, .bool fz, .bool fs, .bool fo, .int .u64 (IntKind.wrap IntKind.u64 (IntKind.wrap IntKind.u64 (at' + IntKind.wrap IntKind.u64 (lenX 29 w dst src base disp imm cc)) + IntKind.wrap IntKind.u64 imm))], .int .i64 0]) (E1 ++ [tC h3, tF]) (by kernel_rfl)).to (by clear E1; first | ((simp only [wk, wkL, and_true]; repeat' (first | rfl | exact True.intro | apply And.intro)); done) | (simp [wk, wkL, u64, h3]; done))
 exact (o9 (d := .tup [.agg [.int .u64 q0, .int .u64 q1, .int .u64 q2, .int .u64 q3, .int .u64 q4, .int .u64 q5, .int .u64 q6, .int .u64 q7, .int .u64 q8, .int .u64 q9, .int .u64 q10, .int .u64 q11, .int .u64 q12, .int .u64 q13, .int .u64 q14, .int .u64 q15, .bool true, .bool fc, .bool fz, .bool fs, .bool fo, .int .u64 (IntKind.wrap IntKind.u64 (at' + IntKind.wrap IntKind.u64 (lenX 29 w dst src base disp imm cc)))], .int .i64 0]) (E1 ++ [tC h3, tF]) (by kernel_rfl)).to (by clear E1; first | ((simp only [wk, wkL, and_true]; repeat' (first | rfl | exact True.intro | apply And.intro)); done) | (simp [wk, wkL, u64, h3]; done))
theorem rexec_29f_ok (q0 q1 q2 q3 q4 q5 q6 q7 q8 q9 q10 q11 q12 q13 q14 q15 at' : Int) (fc fz fs fo : Bool) (w dst src base disp imm cc ld : Int) (d0 : 0 ≤ dst) (d1 : dst ≤ 15) (s0 : 0 ≤ src) (s1 : src ≤ 15) (b0 : 0 ≤ base) (b1 : base ≤ 15) (hm : mayX 29 w dst src base disp imm cc = true) (hcc : ccM cc = true) : Ret Tryz.prog 9 ([.agg [.int .u64 q0, .int .u64 q1, .int .u64 q2, .int .u64 q3, .int .u64 q4, .int .u64 q5, .int .u64 q6, .int .u64 q7, .int .u64 q8, .int .u64 q9, .int .u64 q10, .int .u64 q11, .int .u64 q12, .int .u64 q13, .int .u64 q14, .int .u64 q15, .bool false, .bool fc, .bool fz, .bool fs, .bool fo, .int .u64 (at')], xD 29 w dst src base disp imm cc, .int .u64 ld]) (.tup [.agg [.int .u64 (0), .int .u64 (0), .int .u64 (0), .int .u64 (0), .int .u64 (0), .int .u64 (0), .int .u64 (0), .int .u64 (0), .int .u64 (0), .int .u64 (0), .int .u64 (0), .int .u64 (0), .int .u64 (0), .int .u64 (0), .int .u64 (0), .int .u64 (0), .bool false, .bool false, .bool false, .bool false, .bool false, .int .u64 (0)], .int .i64 20]) := by
 have c0 := @rmayX_ok 29 w dst src base disp imm cc
 rw [hm] at c0
 have c1 := @rlen_ok 29 w dst src base disp imm cc (by decide)
 have c2 := @rholds_f_ok cc fc fz fs fo hcc
 exact (o9 (d := .tup [.agg [.int .u64 0, .int .u64 0, .int .u64 0, .int .u64 0, .int .u64 0, .int .u64 0, .int .u64 0, .int .u64 0, .int .u64 0, .int .u64 0, .int .u64 0, .int .u64 0, .int .u64 0, .int .u64 0, .int .u64 0, .int .u64 0, .bool false, .bool false, .bool false, .bool false, .bool false, .int .u64 0], .int .i64 20]) ([.ret _ _ _ c0, tF, .ret _ _ _ c1, .inl] ++ List.replicate 27 tF ++ [tT, .ret _ _ _ c2, tT]) (by kernel_rfl)).to (by first | ((simp only [wk, wkL, and_true]; repeat' (first | rfl | exact True.intro | apply And.intro)); done) | (simp [wk, wkL, u64, ]; done))
theorem rexec_no_ok (q0 q1 q2 q3 q4 q5 q6 q7 q8 q9 q10 q11 q12 q13 q14 q15 at' : Int) (fk fc fz fs fo : Bool) (op w dst src base disp imm cc ld : Int)(ho : op ≤ 127) (hm : mayX op w dst src base disp imm cc = false)  : Ret Tryz.prog 9 ([.agg [.int .u64 q0, .int .u64 q1, .int .u64 q2, .int .u64 q3, .int .u64 q4, .int .u64 q5, .int .u64 q6, .int .u64 q7, .int .u64 q8, .int .u64 q9, .int .u64 q10, .int .u64 q11, .int .u64 q12, .int .u64 q13, .int .u64 q14, .int .u64 q15, .bool fk, .bool fc, .bool fz, .bool fs, .bool fo, .int .u64 (at')], xD op w dst src base disp imm cc, .int .u64 ld]) (.tup [.agg [.int .u64 (0), .int .u64 (0), .int .u64 (0), .int .u64 (0), .int .u64 (0), .int .u64 (0), .int .u64 (0), .int .u64 (0), .int .u64 (0), .int .u64 (0), .int .u64 (0), .int .u64 (0), .int .u64 (0), .int .u64 (0), .int .u64 (0), .int .u64 (0), .bool false, .bool false, .bool false, .bool false, .bool false, .int .u64 (0)], .int .i64 2]) := by
 have c0 := @rmayX_ok op w dst src base disp imm cc
 rw [hm] at c0
 exact (o9 (d := .tup [.agg [.int .u64 0, .int .u64 0, .int .u64 0, .int .u64 0, .int .u64 0, .int .u64 0, .int .u64 0, .int .u64 0, .int .u64 0, .int .u64 0, .int .u64 0, .int .u64 0, .int .u64 0, .int .u64 0, .int .u64 0, .int .u64 0, .bool false, .bool false, .bool false, .bool false, .bool false, .int .u64 0], .int .i64 2]) [.ret _ _ _ c0, tT] (by kernel_rfl)).to (by first | ((simp only [wk, wkL, and_true]; repeat' (first | rfl | exact True.intro | apply And.intro)); done) | (simp [wk, wkL, u64, ]; done))
end Go.Proofs.YtojgmjfcfpclbaaGreat

namespace Go.Proofs.YtojgmjfcfpclbaaGreat
open Go Go.Ev
set_option maxRecDepth 100000
set_option maxHeartbeats 8000000
def SpR1f0 (k0_ : Int) : Prop := ∀ (m : MachS) (w dst src base disp imm cc ld : Int) (d0 : 0 ≤ dst) (d1 : dst ≤ 15) (s0 : 0 ≤ src) (s1 : src ≤ 15) (b0 : 0 ≤ base) (b1 : base ≤ 15) (hm : mayX k0_ w dst src base disp imm cc = true) (hw : longM w = true), Ret Tryz.prog 9 ([m.d, xD k0_ w dst src base disp imm cc, .int .u64 ld]) (.tup [(doS (m.at (u64 (m.pc + u64 (lenX k0_ w dst src base disp imm cc)))) ⟨k0_, w, dst, src, base, disp, imm, cc⟩ ld).1.d, .int .i64 0])
theorem rexec_9_ok : SpR1f0 9 := by
 intro m w dst src base disp imm cc ld d0 d1 s0 s1 b0 b1 hm hw
 have c0 := @rmayX_ok 9 w dst src base disp imm cc
 rw [hm] at c0
 have c1 := @rlen_ok 9 w dst src base disp imm cc (by decide)
 have c2 := @class_ok 9
 have c3 := @rdo_0_ok w (rg (MachS.rl m) dst) (IntKind.wrap IntKind.u64 imm) hw
 have c4 := @rnone_ok
 have c5 := @radd_ok w (rg (MachS.rl m) dst) (IntKind.wrap IntKind.u64 imm) hw
 exact (o9 (d := .tup [(doS (m.at (u64 (m.pc + u64 (lenX 9 w dst src base disp imm cc)))) ⟨9, w, dst, src, base, disp, imm, cc⟩ ld).1.d, .int .i64 0]) ([.ret _ _ _ c0, tF, .ret _ _ _ c1, .inl, tF, tT, tT, .tst _ true (in16 d0 d1), .get _ _ _ (@get_regm m dst ((fT m (pcX m 9 w dst src base disp imm cc) [])) d0 d1), .inl, .ret _ _ _ c2, tT, tT, .keep [(0, Ob.box (MachS.cw m (pcX m 9 w dst src base disp imm cc) [])), (1, Ob.box [.int .i8 9, .int .i8 w, .int .i8 dst, .int .i8 src, .int .i8 base, .int .i64 disp, .int .i64 imm, .int .i8 cc]), (2, Ob.box zC)], .ret _ _ _ c3, .inl, .ret _ _ _ c4, tT, .ret _ _ _ c5] ++ List.replicate 13 tT ++ [.tst _ true (in16 d0 d1), .putA _ _ _ _ (@put_regm m dst (doM 0 w (rg (MachS.rl m) dst) (IntKind.wrap IntKind.u64 imm)) ([.bool true, .bool (addC w (rg (MachS.rl m) dst) (IntKind.wrap IntKind.u64 imm)), .bool (cutM (u64 (rg (MachS.rl m) dst + IntKind.wrap IntKind.u64 imm)) w == 0), .bool (negM (u64 (rg (MachS.rl m) dst + IntKind.wrap IntKind.u64 imm)) w), .bool (addO w (rg (MachS.rl m) dst) (IntKind.wrap IntKind.u64 imm)), .int .u64 (pcX m 9 w dst src base disp imm cc)]) d0 d1)]) (by kernel_rfl))
theorem rexec_10_ok : SpR1f0 10 := by
 intro m w dst src base disp imm cc ld d0 d1 s0 s1 b0 b1 hm hw
 have c0 := @rmayX_ok 10 w dst src base disp imm cc
 rw [hm] at c0
 have c1 := @rlen_ok 10 w dst src base disp imm cc (by decide)
 have c2 := @class_ok 10
 have c3 := @rdo_4_ok w (rg (MachS.rl m) dst) (IntKind.wrap IntKind.u64 imm) hw
 have c4 := @rnone_ok
 have c5 := @rof_ok w (doM 4 w (rg (MachS.rl m) dst) (IntKind.wrap IntKind.u64 imm)) hw
 exact (o9 (d := .tup [(doS (m.at (u64 (m.pc + u64 (lenX 10 w dst src base disp imm cc)))) ⟨10, w, dst, src, base, disp, imm, cc⟩ ld).1.d, .int .i64 0]) ([.ret _ _ _ c0, tF, .ret _ _ _ c1, .inl, tF, tF, tF, tT, tT, .tst _ true (in16 d0 d1), .get _ _ _ (@get_regm m dst ((fT m (pcX m 10 w dst src base disp imm cc) [])) d0 d1), .inl, .ret _ _ _ c2, tT, tT, .keep [(0, Ob.box (MachS.cw m (pcX m 10 w dst src base disp imm cc) [])), (1, Ob.box [.int .i8 10, .int .i8 w, .int .i8 dst, .int .i8 src, .int .i8 base, .int .i64 disp, .int .i64 imm, .int .i8 cc]), (2, Ob.box zC)], .ret _ _ _ c3, .inl, .ret _ _ _ c4, tF, tF, tT, tT, .ret _ _ _ c5] ++ List.replicate 13 tT ++ [.tst _ true (in16 d0 d1), .putA _ _ _ _ (@put_regm m dst (doM 4 w (rg (MachS.rl m) dst) (IntKind.wrap IntKind.u64 imm)) ([.bool true, .bool false, .bool (cutM (doM 4 w (rg (MachS.rl m) dst) (IntKind.wrap IntKind.u64 imm)) w == 0), .bool (negM (doM 4 w (rg (MachS.rl m) dst) (IntKind.wrap IntKind.u64 imm)) w), .bool false, .int .u64 (pcX m 10 w dst src base disp imm cc)]) d0 d1)]) (by kernel_rfl))
theorem rexec_11_ok : SpR1f0 11 := by
 intro m w dst src base disp imm cc ld d0 d1 s0 s1 b0 b1 hm hw
 have c0 := @rmayX_ok 11 w dst src base disp imm cc
 rw [hm] at c0
 have c1 := @rlen_ok 11 w dst src base disp imm cc (by decide)
 have c2 := @class_ok 11
 have c3 := @rdo_5_ok w (rg (MachS.rl m) dst) (IntKind.wrap IntKind.u64 imm) hw
 have c4 := @rnone_ok
 have c5 := @rof_ok w (doM 5 w (rg (MachS.rl m) dst) (IntKind.wrap IntKind.u64 imm)) hw
 exact (o9 (d := .tup [(doS (m.at (u64 (m.pc + u64 (lenX 11 w dst src base disp imm cc)))) ⟨11, w, dst, src, base, disp, imm, cc⟩ ld).1.d, .int .i64 0]) ([.ret _ _ _ c0, tF, .ret _ _ _ c1, .inl, tF, tF, tF, tF, tF, tT, tT, tT, .tst _ true (in16 d0 d1), .get _ _ _ (@get_regm m dst ((fT m (pcX m 11 w dst src base disp imm cc) [])) d0 d1), .inl, .ret _ _ _ c2, tT, tT, .keep [(0, Ob.box (MachS.cw m (pcX m 11 w dst src base disp imm cc) [])), (1, Ob.box [.int .i8 11, .int .i8 w, .int .i8 dst, .int .i8 src, .int .i8 base, .int .i64 disp, .int .i64 imm, .int .i8 cc]), (2, Ob.box zC)], .ret _ _ _ c3, .inl, .ret _ _ _ c4, tF, tF, tF, tT, tT, .ret _ _ _ c5] ++ List.replicate 13 tT ++ [.tst _ true (in16 d0 d1), .putA _ _ _ _ (@put_regm m dst (doM 5 w (rg (MachS.rl m) dst) (IntKind.wrap IntKind.u64 imm)) ([.bool true, .bool false, .bool (cutM (doM 5 w (rg (MachS.rl m) dst) (IntKind.wrap IntKind.u64 imm)) w == 0), .bool (negM (doM 5 w (rg (MachS.rl m) dst) (IntKind.wrap IntKind.u64 imm)) w), .bool false, .int .u64 (pcX m 11 w dst src base disp imm cc)]) d0 d1)]) (by kernel_rfl))
theorem rexec_13_ok : SpR1f0 13 := by
 intro m w dst src base disp imm cc ld d0 d1 s0 s1 b0 b1 hm hw
 have c0 := @rmayX_ok 13 w dst src base disp imm cc
 rw [hm] at c0
 have c1 := @rlen_ok 13 w dst src base disp imm cc (by decide)
 have c2 := @class_ok 13
 have c3 := @rdo_10_ok w (rg (MachS.rl m) dst) (IntKind.wrap IntKind.u64 imm) hw
 have c4 := @rnone_ok
 have c5 := @rof_ok w (doM 10 w (rg (MachS.rl m) dst) (IntKind.wrap IntKind.u64 imm)) hw
 exact (o9 (d := .tup [(doS (m.at (u64 (m.pc + u64 (lenX 13 w dst src base disp imm cc)))) ⟨13, w, dst, src, base, disp, imm, cc⟩ ld).1.d, .int .i64 0]) ([.ret _ _ _ c0, tF, .ret _ _ _ c1, .inl] ++ List.replicate 13 tF ++ [tT, tT, .tst _ true (in16 d0 d1), .get _ _ _ (@get_regm m dst ((fT m (pcX m 13 w dst src base disp imm cc) [])) d0 d1), .inl, .ret _ _ _ c2, tT, tT, .keep [(0, Ob.box (MachS.cw m (pcX m 13 w dst src base disp imm cc) [])), (1, Ob.box [.int .i8 13, .int .i8 w, .int .i8 dst, .int .i8 src, .int .i8 base, .int .i64 disp, .int .i64 imm, .int .i8 cc]), (2, Ob.box zC)], .ret _ _ _ c3, .inl, .ret _ _ _ c4, tF, tF, tF, tF, tT, .ret _ _ _ c5] ++ List.replicate 13 tT ++ [.tst _ true (in16 d0 d1), .putA _ _ _ _ (@put_regm m dst (doM 10 w (rg (MachS.rl m) dst) (IntKind.wrap IntKind.u64 imm)) ([.bool true, .bool false, .bool (cutM (doM 10 w (rg (MachS.rl m) dst) (IntKind.wrap IntKind.u64 imm)) w == 0), .bool (negM (doM 10 w (rg (MachS.rl m) dst) (IntKind.wrap IntKind.u64 imm)) w), .bool false, .int .u64 (pcX m 13 w dst src base disp imm cc)]) d0 d1)]) (by kernel_rfl))
theorem rexec_14_ok : SpR1f0 14 := by
 intro m w dst src base disp imm cc ld d0 d1 s0 s1 b0 b1 hm hw
 have c0 := @rmayX_ok 14 w dst src base disp imm cc
 rw [hm] at c0
 have c1 := @rlen_ok 14 w dst src base disp imm cc (by decide)
 have c2 := @class_ok 14
 have c3 := @rdo_1_ok w (rg (MachS.rl m) dst) (IntKind.wrap IntKind.u64 imm) hw
 have c4 := @rnone_ok
 have c5 := @rsub_ok w (rg (MachS.rl m) dst) (IntKind.wrap IntKind.u64 imm) hw
 exact (o9 (d := .tup [(doS (m.at (u64 (m.pc + u64 (lenX 14 w dst src base disp imm cc)))) ⟨14, w, dst, src, base, disp, imm, cc⟩ ld).1.d, .int .i64 0]) ([.ret _ _ _ c0, tF, .ret _ _ _ c1, .inl] ++ List.replicate 11 tF ++ [tT, tT, .tst _ true (in16 d0 d1), .get _ _ _ (@get_regm m dst ((fT m (pcX m 14 w dst src base disp imm cc) [])) d0 d1), .inl, .ret _ _ _ c2, tT, tT, .keep [(0, Ob.box (MachS.cw m (pcX m 14 w dst src base disp imm cc) [])), (1, Ob.box [.int .i8 14, .int .i8 w, .int .i8 dst, .int .i8 src, .int .i8 base, .int .i64 disp, .int .i64 imm, .int .i8 cc]), (2, Ob.box zC)], .ret _ _ _ c3, .inl, .ret _ _ _ c4, tF, tT, .ret _ _ _ c5, tT, tT, tT, tT] ++ List.replicate 9 tF) (by kernel_rfl))
theorem rexec_15_ok : SpR1f0 15 := by
 intro m w dst src base disp imm cc ld d0 d1 s0 s1 b0 b1 hm hw
 have c0 := @rmayX_ok 15 w dst src base disp imm cc
 rw [hm] at c0
 have c1 := @rlen_ok 15 w dst src base disp imm cc (by decide)
 have c2 := @class_ok 15
 have c3 := @rdo_5_ok w (rg (MachS.rl m) dst) (IntKind.wrap IntKind.u64 imm) hw
 have c4 := @rnone_ok
 have c5 := @rof_ok w (doM 5 w (rg (MachS.rl m) dst) (IntKind.wrap IntKind.u64 imm)) hw
 exact (o9 (d := .tup [(doS (m.at (u64 (m.pc + u64 (lenX 15 w dst src base disp imm cc)))) ⟨15, w, dst, src, base, disp, imm, cc⟩ ld).1.d, .int .i64 0]) ([.ret _ _ _ c0, tF, .ret _ _ _ c1, .inl, tF, tF, tF, tF, tF, tF, tF, tT, tT, .tst _ true (in16 d0 d1), .get _ _ _ (@get_regm m dst ((fT m (pcX m 15 w dst src base disp imm cc) [])) d0 d1), .inl, .ret _ _ _ c2, tT, tT, .keep [(0, Ob.box (MachS.cw m (pcX m 15 w dst src base disp imm cc) [])), (1, Ob.box [.int .i8 15, .int .i8 w, .int .i8 dst, .int .i8 src, .int .i8 base, .int .i64 disp, .int .i64 imm, .int .i8 cc]), (2, Ob.box zC)], .ret _ _ _ c3, .inl, .ret _ _ _ c4, tF, tF, tF, tT, tT, .ret _ _ _ c5] ++ List.replicate 12 tT ++ [tF]) (by kernel_rfl))
theorem rexec_16_ok : SpR1f0 16 := by
 intro m w dst src base disp imm cc ld d0 d1 s0 s1 b0 b1 hm hw
 have c0 := @rmayX_ok 16 w dst src base disp imm cc
 rw [hm] at c0
 have c1 := @rlen_ok 16 w dst src base disp imm cc (by decide)
 have c2 := @class_ok 16
 have c3 := @rdo_2_ok w (rg (MachS.rl m) dst) (rg (MachS.rl m) src) hw
 have c4 := @rnone_ok
 exact (o9 (d := .tup [(doS (m.at (u64 (m.pc + u64 (lenX 16 w dst src base disp imm cc)))) ⟨16, w, dst, src, base, disp, imm, cc⟩ ld).1.d, .int .i64 0]) ([.ret _ _ _ c0, tF, .ret _ _ _ c1, .inl] ++ List.replicate 14 tF ++ [tT, tT, .tst _ true (in16 d0 d1), .get _ _ _ (@get_regm m dst ((fT m (pcX m 16 w dst src base disp imm cc) [])) d0 d1), .inl, .ret _ _ _ c2, tF, tF, tF, .tst _ true (in16 s0 s1), .get _ _ _ (@get_regm m src ((fT m (pcX m 16 w dst src base disp imm cc) [])) s0 s1), .keep [(0, Ob.box (MachS.cw m (pcX m 16 w dst src base disp imm cc) [])), (1, Ob.box [.int .i8 16, .int .i8 w, .int .i8 dst, .int .i8 src, .int .i8 base, .int .i64 disp, .int .i64 imm, .int .i8 cc]), (2, Ob.box zC)], .ret _ _ _ c3, .inl, .ret _ _ _ c4, tF, tF, tF, tF, tF] ++ List.replicate 13 tT ++ [.tst _ true (in16 d0 d1), .putA _ _ _ _ (@put_regm m dst (doM 2 w (rg (MachS.rl m) dst) (rg (MachS.rl m) src)) ([.bool false, .bool false, .bool false, .bool false, .bool false, .int .u64 (pcX m 16 w dst src base disp imm cc)]) d0 d1)]) (by kernel_rfl))
end Go.Proofs.YtojgmjfcfpclbaaGreat

namespace Go.Proofs.YtojgmjfcfpclbaaGreat
open Go Go.Ev
set_option maxRecDepth 100000
theorem rexec_s_ok (m : MachS) (x : XS) (ld : Int) (ho : x.op ≤ 127) : Ret Tryz.prog 9 [m.d, x.d, .int .u64 ld] (.tup [(execS m x ld).1.d, .int .i64 (execS m x ld).2]) := by
 cases hm : x.may
 ·rw [execS_no hm]
  obtain ⟨q0, q1, q2, q3, q4, q5, q6, q7, q8, q9, q10, q11, q12, q13, q14, q15, fk, fc, fz, fs, fo, pc⟩ := m
  obtain ⟨op, w, dst, src, base, disp, imm, cc⟩ := x
  exact rexec_no_ok q0 q1 q2 q3 q4 q5 q6 q7 q8 q9 q10 q11 q12 q13 q14 q15 pc fk fc fz fs fo op w dst src base disp imm cc ld ho hm
 ·rw [execS_may hm]
  obtain ⟨q0, q1, q2, q3, q4, q5, q6, q7, q8, q9, q10, q11, q12, q13, q14, q15, fk, fc, fz, fs, fo, pc⟩ := m
  obtain ⟨op, w, dst, src, base, disp, imm, cc⟩ := x
  replace hm : mayX op w dst src base disp imm cc = true := hm
  have hsh : shapeM op ≠ 0 := by
   intro e
   have hs := (mayX_parts hm).2
   rw [e] at hs
   simp [mayS] at hs
  obtain ⟨⟨d0, d1, s0, s1, b0, b1, _⟩, hs⟩ := mayX_parts hm
  rcases shape_ops hsh with rfl | rfl | rfl | rfl | rfl | rfl | rfl | rfl | rfl | rfl | rfl | rfl | rfl | rfl | rfl | rfl | rfl | rfl | rfl | rfl | rfl | rfl | rfl | rfl | rfl | rfl | rfl | rfl | rfl | rfl | rfl | rfl
  ·exact rexec_0_ok ⟨q0, q1, q2, q3, q4, q5, q6, q7, q8, q9, q10, q11, q12, q13, q14, q15, fk, fc, fz, fs, fo, pc⟩ w dst src base disp imm cc ld d0 d1 s0 s1 b0 b1 hm (may_long hs (by decide))
  ·exact rexec_1_ok ⟨q0, q1, q2, q3, q4, q5, q6, q7, q8, q9, q10, q11, q12, q13, q14, q15, fk, fc, fz, fs, fo, pc⟩ w dst src base disp imm cc ld d0 d1 s0 s1 b0 b1 hm (may_long hs (by decide))
  ·exact rexec_2_ok ⟨q0, q1, q2, q3, q4, q5, q6, q7, q8, q9, q10, q11, q12, q13, q14, q15, fk, fc, fz, fs, fo, pc⟩ w dst src base disp imm cc ld d0 d1 s0 s1 b0 b1 hm (may_long hs (by decide))
  ·exact rexec_3_ok ⟨q0, q1, q2, q3, q4, q5, q6, q7, q8, q9, q10, q11, q12, q13, q14, q15, fk, fc, fz, fs, fo, pc⟩ w dst src base disp imm cc ld d0 d1 s0 s1 b0 b1 hm (may_long hs (by decide))
  ·exact rexec_4_ok ⟨q0, q1, q2, q3, q4, q5, q6, q7, q8, q9, q10, q11, q12, q13, q14, q15, fk, fc, fz, fs, fo, pc⟩ w dst src base disp imm cc ld d0 d1 s0 s1 b0 b1 hm (may_long hs (by decide))
  ·exact rexec_5_ok ⟨q0, q1, q2, q3, q4, q5, q6, q7, q8, q9, q10, q11, q12, q13, q14, q15, fk, fc, fz, fs, fo, pc⟩ w dst src base disp imm cc ld d0 d1 s0 s1 b0 b1 hm (may_long hs (by decide))
  ·exact rexec_6_ok ⟨q0, q1, q2, q3, q4, q5, q6, q7, q8, q9, q10, q11, q12, q13, q14, q15, fk, fc, fz, fs, fo, pc⟩ w dst src base disp imm cc ld d0 d1 s0 s1 b0 b1 hm (may_long hs (by decide))
  ·exact rexec_7_ok ⟨q0, q1, q2, q3, q4, q5, q6, q7, q8, q9, q10, q11, q12, q13, q14, q15, fk, fc, fz, fs, fo, pc⟩ w dst src base disp imm cc ld d0 d1 s0 s1 b0 b1 hm (may_long hs (by decide))
  ·exact rexec_8_ok ⟨q0, q1, q2, q3, q4, q5, q6, q7, q8, q9, q10, q11, q12, q13, q14, q15, fk, fc, fz, fs, fo, pc⟩ w dst src base disp imm cc ld d0 d1 s0 s1 b0 b1 hm (may_long hs (by decide))
  ·exact rexec_9_ok ⟨q0, q1, q2, q3, q4, q5, q6, q7, q8, q9, q10, q11, q12, q13, q14, q15, fk, fc, fz, fs, fo, pc⟩ w dst src base disp imm cc ld d0 d1 s0 s1 b0 b1 hm (may_long hs (by decide))
  ·exact rexec_10_ok ⟨q0, q1, q2, q3, q4, q5, q6, q7, q8, q9, q10, q11, q12, q13, q14, q15, fk, fc, fz, fs, fo, pc⟩ w dst src base disp imm cc ld d0 d1 s0 s1 b0 b1 hm (may_long hs (by decide))
  ·exact rexec_11_ok ⟨q0, q1, q2, q3, q4, q5, q6, q7, q8, q9, q10, q11, q12, q13, q14, q15, fk, fc, fz, fs, fo, pc⟩ w dst src base disp imm cc ld d0 d1 s0 s1 b0 b1 hm (may_long hs (by decide))
  ·exact rexec_12_ok ⟨q0, q1, q2, q3, q4, q5, q6, q7, q8, q9, q10, q11, q12, q13, q14, q15, fk, fc, fz, fs, fo, pc⟩ w dst src base disp imm cc ld d0 d1 s0 s1 b0 b1 hm (may_long hs (by decide))
  ·exact rexec_13_ok ⟨q0, q1, q2, q3, q4, q5, q6, q7, q8, q9, q10, q11, q12, q13, q14, q15, fk, fc, fz, fs, fo, pc⟩ w dst src base disp imm cc ld d0 d1 s0 s1 b0 b1 hm (may_long hs (by decide))
  ·exact rexec_14_ok ⟨q0, q1, q2, q3, q4, q5, q6, q7, q8, q9, q10, q11, q12, q13, q14, q15, fk, fc, fz, fs, fo, pc⟩ w dst src base disp imm cc ld d0 d1 s0 s1 b0 b1 hm (may_long hs (by decide))
  ·exact rexec_15_ok ⟨q0, q1, q2, q3, q4, q5, q6, q7, q8, q9, q10, q11, q12, q13, q14, q15, fk, fc, fz, fs, fo, pc⟩ w dst src base disp imm cc ld d0 d1 s0 s1 b0 b1 hm (may_long hs (by decide))
  ·exact rexec_16_ok ⟨q0, q1, q2, q3, q4, q5, q6, q7, q8, q9, q10, q11, q12, q13, q14, q15, fk, fc, fz, fs, fo, pc⟩ w dst src base disp imm cc ld d0 d1 s0 s1 b0 b1 hm (may_long hs (by decide))
  ·exact rexec_17_ok ⟨q0, q1, q2, q3, q4, q5, q6, q7, q8, q9, q10, q11, q12, q13, q14, q15, fk, fc, fz, fs, fo, pc⟩ w dst src base disp imm cc ld d0 d1 s0 s1 b0 b1 hm (may_long hs (by decide))
  ·exact rexec_18_ok ⟨q0, q1, q2, q3, q4, q5, q6, q7, q8, q9, q10, q11, q12, q13, q14, q15, fk, fc, fz, fs, fo, pc⟩ w dst src base disp imm cc ld d0 d1 s0 s1 b0 b1 hm (may_long hs (by decide))
  ·exact rexec_19_ok ⟨q0, q1, q2, q3, q4, q5, q6, q7, q8, q9, q10, q11, q12, q13, q14, q15, fk, fc, fz, fs, fo, pc⟩ w dst src base disp imm cc ld d0 d1 s0 s1 b0 b1 hm (may_long hs (by decide))
  ·exact rexec_20_ok ⟨q0, q1, q2, q3, q4, q5, q6, q7, q8, q9, q10, q11, q12, q13, q14, q15, fk, fc, fz, fs, fo, pc⟩ w dst src base disp imm cc ld d0 d1 s0 s1 b0 b1 hm (may_long hs (by decide))
  ·exact rexec_21_ok ⟨q0, q1, q2, q3, q4, q5, q6, q7, q8, q9, q10, q11, q12, q13, q14, q15, fk, fc, fz, fs, fo, pc⟩ w dst src base disp imm cc ld d0 d1 s0 s1 b0 b1 hm (may_long hs (by decide))
  ·exact rexec_22_ok ⟨q0, q1, q2, q3, q4, q5, q6, q7, q8, q9, q10, q11, q12, q13, q14, q15, fk, fc, fz, fs, fo, pc⟩ w dst src base disp imm cc ld d0 d1 s0 s1 b0 b1 hm (may_long hs (by decide))
  ·exact rexec_23_ok ⟨q0, q1, q2, q3, q4, q5, q6, q7, q8, q9, q10, q11, q12, q13, q14, q15, fk, fc, fz, fs, fo, pc⟩ w dst src base disp imm cc ld d0 d1 s0 s1 b0 b1 hm (may_long hs (by decide))
  ·cases hd : (cutM (rg [q0, q1, q2, q3, q4, q5, q6, q7, q8, q9, q10, q11, q12, q13, q14, q15] dst) w == 0)
   ·cases hz : (cutM q2 w == 0)
    ·have e : doS ((⟨q0, q1, q2, q3, q4, q5, q6, q7, q8, q9, q10, q11, q12, q13, q14, q15, fk, fc, fz, fs, fo, pc⟩ : MachS).at (u64 (pc + u64 (XS.len ⟨24, w, dst, src, base, disp, imm, cc⟩)))) ⟨24, w, dst, src, base, disp, imm, cc⟩ ld = (.zero, 20) := by
      show (match (cutM (rg [q0, q1, q2, q3, q4, q5, q6, q7, q8, q9, q10, q11, q12, q13, q14, q15] dst) w == 0 : Bool) with | true => ((MachS.zero, 20) : MachS × Int) | false => match (cutM q2 w == 0 : Bool) with | false => (.zero, 20) | true => _) = _
      rw [hd, hz]
     rw [e]
     exact rexec_24g_ok q0 q1 q2 q3 q4 q5 q6 q7 q8 q9 q10 q11 q12 q13 q14 q15 pc fk fc fz fs fo w dst src base disp imm cc ld d0 d1 s0 s1 b0 b1 hm (may_long hs (by decide)) hd hz
    ·have e : doS ((⟨q0, q1, q2, q3, q4, q5, q6, q7, q8, q9, q10, q11, q12, q13, q14, q15, fk, fc, fz, fs, fo, pc⟩ : MachS).at (u64 (pc + u64 (XS.len ⟨24, w, dst, src, base, disp, imm, cc⟩)))) ⟨24, w, dst, src, base, disp, imm, cc⟩ ld = (⟨u64 ((cutM q0 w).tdiv (cutM (rg [q0, q1, q2, q3, q4, q5, q6, q7, q8, q9, q10, q11, q12, q13, q14, q15] dst) w)), q1, (cutM q0 w).tmod (cutM (rg [q0, q1, q2, q3, q4, q5, q6, q7, q8, q9, q10, q11, q12, q13, q14, q15] dst) w), q3, q4, q5, q6, q7, q8, q9, q10, q11, q12, q13, q14, q15, false, false, false, false, false, u64 (pc + u64 (XS.len ⟨24, w, dst, src, base, disp, imm, cc⟩))⟩, 0) := by
      show (match (cutM (rg [q0, q1, q2, q3, q4, q5, q6, q7, q8, q9, q10, q11, q12, q13, q14, q15] dst) w == 0 : Bool) with | true => ((MachS.zero, 20) : MachS × Int) | false => match (cutM q2 w == 0 : Bool) with | false => (.zero, 20) | true => _) = _
      rw [hd, hz]
      rfl
     rw [e]
     exact rexec_24_ok q0 q1 q2 q3 q4 q5 q6 q7 q8 q9 q10 q11 q12 q13 q14 q15 pc fk fc fz fs fo w dst src base disp imm cc ld d0 d1 s0 s1 b0 b1 hm (may_long hs (by decide)) hd hz
   ·have e : doS ((⟨q0, q1, q2, q3, q4, q5, q6, q7, q8, q9, q10, q11, q12, q13, q14, q15, fk, fc, fz, fs, fo, pc⟩ : MachS).at (u64 (pc + u64 (XS.len ⟨24, w, dst, src, base, disp, imm, cc⟩)))) ⟨24, w, dst, src, base, disp, imm, cc⟩ ld = (.zero, 20) := by
     show (match (cutM (rg [q0, q1, q2, q3, q4, q5, q6, q7, q8, q9, q10, q11, q12, q13, q14, q15] dst) w == 0 : Bool) with | true => ((MachS.zero, 20) : MachS × Int) | false => match (cutM q2 w == 0 : Bool) with | false => (.zero, 20) | true => _) = _
     rw [hd]
    rw [e]
    exact rexec_24f_ok q0 q1 q2 q3 q4 q5 q6 q7 q8 q9 q10 q11 q12 q13 q14 q15 pc fk fc fz fs fo w dst src base disp imm cc ld d0 d1 s0 s1 b0 b1 hm (may_long hs (by decide)) hd
  ·cases fk
   ·exact rexec_25f_ok q0 q1 q2 q3 q4 q5 q6 q7 q8 q9 q10 q11 q12 q13 q14 q15 pc fc fz fs fo w dst src base disp imm cc ld d0 d1 s0 s1 b0 b1 hm (may_long hs (by decide)) (may_cc hs)
   ·exact rexec_25_ok q0 q1 q2 q3 q4 q5 q6 q7 q8 q9 q10 q11 q12 q13 q14 q15 pc fc fz fs fo w dst src base disp imm cc ld d0 d1 s0 s1 b0 b1 hm (may_long hs (by decide)) (may_cc hs)
  ·exact rexec_26_ok ⟨q0, q1, q2, q3, q4, q5, q6, q7, q8, q9, q10, q11, q12, q13, q14, q15, fk, fc, fz, fs, fo, pc⟩ w dst src base disp imm cc ld d0 d1 s0 s1 b0 b1 hm (by rw [show shapeM 26 = 7 from rfl] at hs; simp [mayS] at hs; exact hs.1)
  ·exact rexec_27_ok ⟨q0, q1, q2, q3, q4, q5, q6, q7, q8, q9, q10, q11, q12, q13, q14, q15, fk, fc, fz, fs, fo, pc⟩ w dst src base disp imm cc ld d0 d1 s0 s1 b0 b1 hm
  ·exact rexec_28_ok ⟨q0, q1, q2, q3, q4, q5, q6, q7, q8, q9, q10, q11, q12, q13, q14, q15, fk, fc, fz, fs, fo, pc⟩ w dst src base disp imm cc ld d0 d1 s0 s1 b0 b1 hm
  ·cases fk
   ·exact rexec_29f_ok q0 q1 q2 q3 q4 q5 q6 q7 q8 q9 q10 q11 q12 q13 q14 q15 pc fc fz fs fo w dst src base disp imm cc ld d0 d1 s0 s1 b0 b1 hm (may_cc' hs)
   ·exact rexec_29_ok q0 q1 q2 q3 q4 q5 q6 q7 q8 q9 q10 q11 q12 q13 q14 q15 pc fc fz fs fo w dst src base disp imm cc ld d0 d1 s0 s1 b0 b1 hm (may_cc' hs)
  ·exact rexec_30_ok ⟨q0, q1, q2, q3, q4, q5, q6, q7, q8, q9, q10, q11, q12, q13, q14, q15, fk, fc, fz, fs, fo, pc⟩ w dst src base disp imm cc ld d0 d1 s0 s1 b0 b1 hm
  ·exact rexec_31_ok ⟨q0, q1, q2, q3, q4, q5, q6, q7, q8, q9, q10, q11, q12, q13, q14, q15, fk, fc, fz, fs, fo, pc⟩ w dst src base disp imm cc ld d0 d1 s0 s1 b0 b1 hm
end Go.Proofs.YtojgmjfcfpclbaaGreat

namespace Go.Proofs.YtojgmjfcfpclbaaGreat
open Go Go.Ev
theorem rexec_d_ok (q0 q1 q2 q3 q4 q5 q6 q7 q8 q9 q10 q11 q12 q13 q14 q15 pc : Int) (fk fc fz fs fo : Bool) (op w dst src base disp imm cc ld : Int) (ho : op ≤ 127) :
  Ret Tryz.prog 9 [.agg [.int .u64 q0, .int .u64 q1, .int .u64 q2, .int .u64 q3, .int .u64 q4, .int .u64 q5, .int .u64 q6, .int .u64 q7, .int .u64 q8, .int .u64 q9, .int .u64 q10, .int .u64 q11, .int .u64 q12, .int .u64 q13, .int .u64 q14, .int .u64 q15, .bool fk, .bool fc, .bool fz, .bool fs, .bool fo, .int .u64 pc], xD op w dst src base disp imm cc, .int .u64 ld]
   (.tup [(execM ⟨q0, q1, q2, q3, q4, q5, q6, q7, q8, q9, q10, q11, q12, q13, q14, q15, fk, fc, fz, fs, fo, pc⟩ ⟨op, w, dst, src, base, disp, imm, cc⟩ ld).d, .int .i64 (execE ⟨q0, q1, q2, q3, q4, q5, q6, q7, q8, q9, q10, q11, q12, q13, q14, q15, fk, fc, fz, fs, fo, pc⟩ ⟨op, w, dst, src, base, disp, imm, cc⟩ ld)]) := rexec_s_ok ⟨q0, q1, q2, q3, q4, q5, q6, q7, q8, q9, q10, q11, q12, q13, q14, q15, fk, fc, fz, fs, fo, pc⟩ ⟨op, w, dst, src, base, disp, imm, cc⟩ ld ho
end Go.Proofs.YtojgmjfcfpclbaaGreat

namespace Go.Proofs.YtojgmjfcfpclbaaGreat
open Go Go.Ev
set_option maxRecDepth 100000
set_option maxHeartbeats 8000000
theorem rdn_end (l : List D) (k : Nat) (r : RgS) (m : MachS) (hb : l.length ≤ 9223372036854775807) (hk : l.length ≤ k) : RoundRun Tryz.prog (loopB Tryz.f26 0) ⟨[0, 3, 4, 5, 8, 11, 12], [0, 1, 2, 3, 5], []⟩ 6 [.lst .no 13 l, uu, uu, .ptr false 0 0, .ptr false 1 0, .ptr false 2 0, uu, uu, .ptr false 3 0, uu, uu, .ptr false 5 0, .int .i64 (↑k : Int), uu, uu, uu, uu, uu, uu, uu, uu, uu, uu, uu, uu, uu, uu, uu, uu, uu, uu, uu, uu, uu, uu, uu, uu, uu, uu, uu, uu, uu, uu, uu, uu, uu, uu, uu, uu, uu, uu, uu, uu, uu, uu, uu, uu, uu, uu, uu, uu, uu, uu, uu, uu, uu, uu, uu, uu, uu, uu, uu, uu, uu, uu, uu, uu, uu, uu, uu, uu, uu, uu] [Ob.box r.c, Ob.box RgS.zero.c, Ob.box MachS.zero.c, Ob.box RgS.zero.c, Ob.dead, Ob.box m.c] (Ex.exit (0 : Nat)) [.lst .no 13 l, uu, uu, .ptr false 0 0, .ptr false 1 0, .ptr false 2 0, uu, uu, .ptr false 3 0, uu, uu, .ptr false 5 0, .int .i64 (↑k : Int), uu, uu, uu, uu, uu, uu, uu, uu, uu, uu, uu, uu, uu, uu, uu, uu, uu, uu, uu, uu, uu, uu, uu, uu, uu, uu, uu, uu, uu, uu, uu, uu, uu, uu, uu, uu, uu, uu, uu, uu, uu, uu, uu, uu, uu, uu, uu, uu, uu, uu, uu, uu, uu, uu, uu, uu, uu, uu, uu, uu, uu, uu, uu, uu, uu, uu, uu, uu, uu, uu] ([Ob.box r.c, Ob.box RgS.zero.c, Ob.box MachS.zero.c, Ob.box RgS.zero.c, Ob.dead, Ob.box m.c]) := by
 exact (RoundRun.of_eval (sp := ⟨[0, 3, 4, 5, 8, 11, 12], [0, 1, 2, 3, 5], []⟩) (n0 := 6) (ex := Ex.exit (0 : Nat)) (t' := [.lst .no 13 l, uu, uu, .ptr false 0 0, .ptr false 1 0, .ptr false 2 0, uu, uu, .ptr false 3 0, uu, uu, .ptr false 5 0, .int .i64 (↑k : Int), uu, uu, uu, uu, uu, uu, uu, uu, uu, uu, uu, uu, uu, uu, uu, uu, uu, uu, uu, uu, uu, uu, uu, uu, uu, uu, uu, uu, uu, uu, uu, uu, uu, uu, uu, uu, uu, uu, uu, uu, uu, uu, uu, uu, uu, uu, uu, uu, uu, uu, uu, uu, uu, uu, uu, uu, uu, uu, uu, uu, uu, uu, uu, uu, uu, uu, uu, uu, uu, uu]) (s' := [Ob.box r.c, Ob.box RgS.zero.c, Ob.box MachS.zero.c, Ob.box RgS.zero.c, Ob.dead, Ob.box m.c]) mixed [tC (by (simp only [sl2] at *; omega) : (decide ((↑k : Int) < (↑(List.length l) : Int))) = false)] (by kernel_rfl)).cast (by first | rfl | (have e1 : IntKind.i64.wrap ((k : Int) + 1) = ((k + 1 : Nat) : Int) := (by rw [w_i64]; omega); first | (rw [e1]; done) | (rw [e1]; rfl))) (by first | rfl | (have e1 : IntKind.i64.wrap ((k : Int) + 1) = ((k + 1 : Nat) : Int) := (by rw [w_i64]; omega); first | (rw [e1]; done) | (rw [e1]; rfl)))
theorem rdn_stop (l : List D) (k : Nat) (r : RgS) (m : MachS) (hb : l.length ≤ 9223372036854775807) (kind op w dst src base disp imm cc reg phys num to : Int) (k0 : -128 ≤ kind) (k1 : kind ≤ 127) (hk : k < l.length) (hx : l[k]? = some (irD kind op w dst src base disp imm cc reg phys num to)) (hs : stopsI kind op = true) : RoundRun Tryz.prog (loopB Tryz.f26 0) ⟨[4, 5, 6, 7], [1, 2], []⟩ 6 [.lst .no 13 l, uu, uu, .ptr false 0 0, .ptr false 1 0, .ptr false 2 0, uu, uu, .ptr false 3 0, uu, uu, .ptr false 5 0, .int .i64 (↑k : Int), uu, uu, uu, uu, uu, uu, uu, uu, uu, uu, uu, uu, uu, uu, uu, uu, uu, uu, uu, uu, uu, uu, uu, uu, uu, uu, uu, uu, uu, uu, uu, uu, uu, uu, uu, uu, uu, uu, uu, uu, uu, uu, uu, uu, uu, uu, uu, uu, uu, uu, uu, uu, uu, uu, uu, uu, uu, uu, uu, uu, uu, uu, uu, uu, uu, uu, uu, uu, uu, uu] [Ob.box r.c, Ob.box RgS.zero.c, Ob.box MachS.zero.c, Ob.box RgS.zero.c, Ob.dead, Ob.box m.c] (Ex.ret) [uu, uu, uu, uu, .ptr false 1 0, .ptr false 2 0, .int .i64 (↑k : Int), .int .i64 0, uu, uu, uu, uu, uu, uu, uu, uu, uu, uu, uu, uu, uu, uu, uu, uu, uu, uu, uu, uu, uu, uu, uu, uu, uu, uu, uu, uu, uu, uu, uu, uu, uu, uu, uu, uu, uu, uu, uu, uu, uu, uu, uu, uu, uu, uu, uu, uu, uu, uu, uu, uu, uu, uu, uu, uu, uu, uu, uu, uu, uu, uu, uu, uu, uu, uu, uu, uu, uu, uu, uu, uu, uu, uu, uu] ([Ob.dead, Ob.box r.c, Ob.box m.c, Ob.dead, Ob.dead, Ob.dead]) := by
 have c0 := @ristops_ok kind op w dst src base disp imm cc reg phys num to k0 k1
 exact (RoundRun.of_eval (sp := ⟨[4, 5, 6, 7], [1, 2], []⟩) (n0 := 6) (ex := Ex.ret) (t' := [uu, uu, uu, uu, .ptr false 1 0, .ptr false 2 0, .int .i64 (↑k : Int), .int .i64 0, uu, uu, uu, uu, uu, uu, uu, uu, uu, uu, uu, uu, uu, uu, uu, uu, uu, uu, uu, uu, uu, uu, uu, uu, uu, uu, uu, uu, uu, uu, uu, uu, uu, uu, uu, uu, uu, uu, uu, uu, uu, uu, uu, uu, uu, uu, uu, uu, uu, uu, uu, uu, uu, uu, uu, uu, uu, uu, uu, uu, uu, uu, uu, uu, uu, uu, uu, uu, uu, uu, uu, uu, uu, uu, uu]) (s' := [Ob.dead, Ob.box r.c, Ob.box m.c, Ob.dead, Ob.dead, Ob.dead]) mixed [tC (by (simp only [sl2] at *; omega) : (decide ((↑k : Int) < (↑(List.length l) : Int))) = true), tT, .get _ _ _ hx, .ret _ _ _ c0, tC hs] (by kernel_rfl)).cast (by first | rfl | (have e1 : IntKind.i64.wrap ((k : Int) + 1) = ((k + 1 : Nat) : Int) := (by rw [w_i64]; omega); first | (rw [e1]; done) | (rw [e1]; rfl))) (by first | rfl | (have e1 : IntKind.i64.wrap ((k : Int) + 1) = ((k + 1 : Nat) : Int) := (by rw [w_i64]; omega); first | (rw [e1]; done) | (rw [e1]; rfl)))
theorem rdn_take (l : List D) (k : Nat) (r : RgS) (m : MachS) (hb : l.length ≤ 9223372036854775807) (op w dst src base disp imm cc reg phys num to : Int) (g0 : 0 ≤ reg) (g1 : reg ≤ 10) (p0 : 0 ≤ phys) (p1 : phys ≤ 15) (hk : k < l.length) (hx : l[k]? = some (irD 1 op w dst src base disp imm cc reg phys num to))  : RoundRun Tryz.prog (loopB Tryz.f26 0) ⟨[0, 3, 4, 5, 8, 11, 12], [0, 1, 2, 3, 5], []⟩ 6 [.lst .no 13 l, uu, uu, .ptr false 0 0, .ptr false 1 0, .ptr false 2 0, uu, uu, .ptr false 3 0, uu, uu, .ptr false 5 0, .int .i64 (↑k : Int), uu, uu, uu, uu, uu, uu, uu, uu, uu, uu, uu, uu, uu, uu, uu, uu, uu, uu, uu, uu, uu, uu, uu, uu, uu, uu, uu, uu, uu, uu, uu, uu, uu, uu, uu, uu, uu, uu, uu, uu, uu, uu, uu, uu, uu, uu, uu, uu, uu, uu, uu, uu, uu, uu, uu, uu, uu, uu, uu, uu, uu, uu, uu, uu, uu, uu, uu, uu, uu, uu] [Ob.box r.c, Ob.box RgS.zero.c, Ob.box MachS.zero.c, Ob.box RgS.zero.c, Ob.dead, Ob.box m.c] (Ex.norm) [.lst .no 13 l, uu, uu, .ptr false 0 0, .ptr false 1 0, .ptr false 2 0, uu, uu, .ptr false 3 0, uu, uu, .ptr false 5 0, .int .i64 (↑(k + (1 : Nat)) : Int), uu, uu, uu, uu, uu, uu, uu, uu, uu, uu, uu, uu, uu, uu, uu, uu, uu, uu, uu, uu, uu, uu, uu, uu, uu, uu, uu, uu, uu, uu, uu, uu, uu, uu, uu, uu, uu, uu, uu, uu, uu, uu, uu, uu, uu, uu, uu, uu, uu, uu, uu, uu, uu, uu, uu, uu, uu, uu, uu, uu, uu, uu, uu, uu, uu, uu, uu, uu, uu, uu] ([.box r.c, .box RgS.zero.c, .box MachS.zero.c, .box RgS.zero.c, .dead, .box (m.put phys (r.get reg)).c]) := by
 have c0 := @ristops_ok 1 op w dst src base disp imm cc reg phys num to (by decide) (by decide)
 exact (RoundRun.of_eval (sp := ⟨[0, 3, 4, 5, 8, 11, 12], [0, 1, 2, 3, 5], []⟩) (n0 := 6) (ex := Ex.norm) (t' := [.lst .no 13 l, uu, uu, .ptr false 0 0, .ptr false 1 0, .ptr false 2 0, uu, uu, .ptr false 3 0, uu, uu, .ptr false 5 0, .int .i64 (IntKind.wrap IntKind.i64 ((↑k : Int) + 1)), uu, uu, uu, uu, uu, uu, uu, uu, uu, uu, uu, uu, uu, uu, uu, uu, uu, uu, uu, uu, uu, uu, uu, uu, uu, uu, uu, uu, uu, uu, uu, uu, uu, uu, uu, uu, uu, uu, uu, uu, uu, uu, uu, uu, uu, uu, uu, uu, uu, uu, uu, uu, uu, uu, uu, uu, uu, uu, uu, uu, uu, uu, uu, uu, uu, uu, uu, uu, uu, uu]) (s' := [Ob.box r.c, Ob.box RgS.zero.c, Ob.box MachS.zero.c, Ob.box RgS.zero.c, Ob.dead, Ob.box (m.put phys (r.get reg)).c]) mixed [tC (by (simp only [sl2] at *; omega) : (decide ((↑k : Int) < (↑(List.length l) : Int))) = true), tT, .get _ _ _ hx, .ret _ _ _ c0, tF, tT, .tst (decide (0 ≤ reg ∧ reg < (↑(11 : Nat) : Int))) true (by (simp only [sl2] at *; omega)), .get _ _ _ (@get_rg r.r0 r.r1 r.r2 r.r3 r.r4 r.r5 r.r6 r.r7 r.r8 r.r9 r.r10 reg ([]) g0 g1), .tst (decide (0 ≤ phys ∧ phys < (↑(16 : Nat) : Int))) true (by (simp only [sl2] at *; omega)), .putA _ _ _ _ (@put_reg m.q0 m.q1 m.q2 m.q3 m.q4 m.q5 m.q6 m.q7 m.q8 m.q9 m.q10 m.q11 m.q12 m.q13 m.q14 m.q15 phys (rg [r.r0, r.r1, r.r2, r.r3, r.r4, r.r5, r.r6, r.r7, r.r8, r.r9, r.r10] reg) ([.bool m.fk, .bool m.fc, .bool m.fz, .bool m.fs, .bool m.fo, .int .u64 m.pc]) p0 p1)] (by kernel_rfl)).cast (by first | rfl | (have e1 : IntKind.i64.wrap ((k : Int) + 1) = ((k + 1 : Nat) : Int) := (by rw [w_i64]; omega); first | (rw [e1]; done) | (rw [e1]; rfl))) (by first | rfl | (have e1 : IntKind.i64.wrap ((k : Int) + 1) = ((k + 1 : Nat) : Int) := (by rw [w_i64]; omega); first | (rw [e1]; done) | (rw [e1]; rfl)))
theorem rdn_give (l : List D) (k : Nat) (r : RgS) (m : MachS) (hb : l.length ≤ 9223372036854775807) (op w dst src base disp imm cc reg phys num to : Int) (g0 : 0 ≤ reg) (g1 : reg ≤ 10) (p0 : 0 ≤ phys) (p1 : phys ≤ 15) (hk : k < l.length) (hx : l[k]? = some (irD 2 op w dst src base disp imm cc reg phys num to))  : RoundRun Tryz.prog (loopB Tryz.f26 0) ⟨[0, 3, 4, 5, 8, 11, 12], [0, 1, 2, 3, 5], []⟩ 6 [.lst .no 13 l, uu, uu, .ptr false 0 0, .ptr false 1 0, .ptr false 2 0, uu, uu, .ptr false 3 0, uu, uu, .ptr false 5 0, .int .i64 (↑k : Int), uu, uu, uu, uu, uu, uu, uu, uu, uu, uu, uu, uu, uu, uu, uu, uu, uu, uu, uu, uu, uu, uu, uu, uu, uu, uu, uu, uu, uu, uu, uu, uu, uu, uu, uu, uu, uu, uu, uu, uu, uu, uu, uu, uu, uu, uu, uu, uu, uu, uu, uu, uu, uu, uu, uu, uu, uu, uu, uu, uu, uu, uu, uu, uu, uu, uu, uu, uu, uu, uu] [Ob.box r.c, Ob.box RgS.zero.c, Ob.box MachS.zero.c, Ob.box RgS.zero.c, Ob.dead, Ob.box m.c] (Ex.norm) [.lst .no 13 l, uu, uu, .ptr false 0 0, .ptr false 1 0, .ptr false 2 0, uu, uu, .ptr false 3 0, uu, uu, .ptr false 5 0, .int .i64 (↑(k + (1 : Nat)) : Int), uu, uu, uu, uu, uu, uu, uu, uu, uu, uu, uu, uu, uu, uu, uu, uu, uu, uu, uu, uu, uu, uu, uu, uu, uu, uu, uu, uu, uu, uu, uu, uu, uu, uu, uu, uu, uu, uu, uu, uu, uu, uu, uu, uu, uu, uu, uu, uu, uu, uu, uu, uu, uu, uu, uu, uu, uu, uu, uu, uu, uu, uu, uu, uu, uu, uu, uu, uu, uu, uu] ([.box (r.put reg (rg m.rl phys)).c, .box RgS.zero.c, .box MachS.zero.c, .box RgS.zero.c, .dead, .box m.c]) := by
 have c0 := @ristops_ok 2 op w dst src base disp imm cc reg phys num to (by decide) (by decide)
 exact (RoundRun.of_eval (sp := ⟨[0, 3, 4, 5, 8, 11, 12], [0, 1, 2, 3, 5], []⟩) (n0 := 6) (ex := Ex.norm) (t' := [.lst .no 13 l, uu, uu, .ptr false 0 0, .ptr false 1 0, .ptr false 2 0, uu, uu, .ptr false 3 0, uu, uu, .ptr false 5 0, .int .i64 (IntKind.wrap IntKind.i64 ((↑k : Int) + 1)), uu, uu, uu, uu, uu, uu, uu, uu, uu, uu, uu, uu, uu, uu, uu, uu, uu, uu, uu, uu, uu, uu, uu, uu, uu, uu, uu, uu, uu, uu, uu, uu, uu, uu, uu, uu, uu, uu, uu, uu, uu, uu, uu, uu, uu, uu, uu, uu, uu, uu, uu, uu, uu, uu, uu, uu, uu, uu, uu, uu, uu, uu, uu, uu, uu, uu, uu, uu, uu, uu]) (s' := [Ob.box (r.put reg (rg m.rl phys)).c, Ob.box RgS.zero.c, Ob.box MachS.zero.c, Ob.box RgS.zero.c, Ob.dead, Ob.box m.c]) mixed [tC (by (simp only [sl2] at *; omega) : (decide ((↑k : Int) < (↑(List.length l) : Int))) = true), tT, .get _ _ _ hx, .ret _ _ _ c0, tF, tF, tT, .tst (decide (0 ≤ phys ∧ phys < (↑(16 : Nat) : Int))) true (by (simp only [sl2] at *; omega)), .get _ _ _ (@get_reg m.q0 m.q1 m.q2 m.q3 m.q4 m.q5 m.q6 m.q7 m.q8 m.q9 m.q10 m.q11 m.q12 m.q13 m.q14 m.q15 phys ([.bool m.fk, .bool m.fc, .bool m.fz, .bool m.fs, .bool m.fo, .int .u64 m.pc]) p0 p1), .tst (decide (0 ≤ reg ∧ reg < (↑(11 : Nat) : Int))) true (by (simp only [sl2] at *; omega)), .putA _ _ _ _ (@put_rg r.r0 r.r1 r.r2 r.r3 r.r4 r.r5 r.r6 r.r7 r.r8 r.r9 r.r10 reg (rg [m.q0, m.q1, m.q2, m.q3, m.q4, m.q5, m.q6, m.q7, m.q8, m.q9, m.q10, m.q11, m.q12, m.q13, m.q14, m.q15] phys) ([]) g0 g1)] (by kernel_rfl)).cast (by first | rfl | (have e1 : IntKind.i64.wrap ((k : Int) + 1) = ((k + 1 : Nat) : Int) := (by rw [w_i64]; omega); first | (rw [e1]; done) | (rw [e1]; rfl))) (by first | rfl | (have e1 : IntKind.i64.wrap ((k : Int) + 1) = ((k + 1 : Nat) : Int) := (by rw [w_i64]; omega); first | (rw [e1]; done) | (rw [e1]; rfl)))
theorem rdn_x (l : List D) (k : Nat) (r : RgS) (m : MachS) (hb : l.length ≤ 9223372036854775807) (op w dst src base disp imm cc reg phys num to : Int) (ho : op ≤ 127) (hk : k < l.length) (hx : l[k]? = some (irD 0 op w dst src base disp imm cc reg phys num to)) (hs : stopsI 0 op = false) (he : ((execE m ⟨op, w, dst, src, base, disp, imm, cc⟩ 0) == 0) = true) : RoundRun Tryz.prog (loopB Tryz.f26 0) ⟨[0, 3, 4, 5, 8, 11, 12], [0, 1, 2, 3, 5], []⟩ 6 [.lst .no 13 l, uu, uu, .ptr false 0 0, .ptr false 1 0, .ptr false 2 0, uu, uu, .ptr false 3 0, uu, uu, .ptr false 5 0, .int .i64 (↑k : Int), uu, uu, uu, uu, uu, uu, uu, uu, uu, uu, uu, uu, uu, uu, uu, uu, uu, uu, uu, uu, uu, uu, uu, uu, uu, uu, uu, uu, uu, uu, uu, uu, uu, uu, uu, uu, uu, uu, uu, uu, uu, uu, uu, uu, uu, uu, uu, uu, uu, uu, uu, uu, uu, uu, uu, uu, uu, uu, uu, uu, uu, uu, uu, uu, uu, uu, uu, uu, uu, uu] [Ob.box r.c, Ob.box RgS.zero.c, Ob.box MachS.zero.c, Ob.box RgS.zero.c, Ob.dead, Ob.box m.c] (Ex.norm) [.lst .no 13 l, uu, uu, .ptr false 0 0, .ptr false 1 0, .ptr false 2 0, uu, uu, .ptr false 3 0, uu, uu, .ptr false 5 0, .int .i64 (↑(k + (1 : Nat)) : Int), uu, uu, uu, uu, uu, uu, uu, uu, uu, uu, uu, uu, uu, uu, uu, uu, uu, uu, uu, uu, uu, uu, uu, uu, uu, uu, uu, uu, uu, uu, uu, uu, uu, uu, uu, uu, uu, uu, uu, uu, uu, uu, uu, uu, uu, uu, uu, uu, uu, uu, uu, uu, uu, uu, uu, uu, uu, uu, uu, uu, uu, uu, uu, uu, uu, uu, uu, uu, uu, uu] ([.box r.c, .box RgS.zero.c, .box MachS.zero.c, .box RgS.zero.c, .dead, .box ((execM m ⟨op, w, dst, src, base, disp, imm, cc⟩ 0).at 0).c]) := by
 have c0 := @ristops_ok 0 op w dst src base disp imm cc reg phys num to (by decide) (by decide)
 have c1 := @rexec_d_ok m.q0 m.q1 m.q2 m.q3 m.q4 m.q5 m.q6 m.q7 m.q8 m.q9 m.q10 m.q11 m.q12 m.q13 m.q14 m.q15 m.pc m.fk m.fc m.fz m.fs m.fo op w dst src base disp imm cc 0 ho
 exact (RoundRun.of_eval (sp := ⟨[0, 3, 4, 5, 8, 11, 12], [0, 1, 2, 3, 5], []⟩) (n0 := 6) (ex := Ex.norm) (t' := [.lst .no 13 l, uu, uu, .ptr false 0 0, .ptr false 1 0, .ptr false 2 0, uu, uu, .ptr false 3 0, uu, uu, .ptr false 5 0, .int .i64 (IntKind.wrap IntKind.i64 ((↑k : Int) + 1)), uu, uu, uu, uu, uu, uu, uu, uu, uu, uu, uu, uu, uu, uu, uu, uu, uu, uu, uu, uu, uu, uu, uu, uu, uu, uu, uu, uu, uu, uu, uu, uu, uu, uu, uu, uu, uu, uu, uu, uu, uu, uu, uu, uu, uu, uu, uu, uu, uu, uu, uu, uu, uu, uu, uu, uu, uu, uu, uu, uu, uu, uu, uu, uu, uu, uu, uu, uu, uu, uu]) (s' := [Ob.box r.c, Ob.box RgS.zero.c, Ob.box MachS.zero.c, Ob.box RgS.zero.c, Ob.dead, Ob.box ((execM m ⟨op, w, dst, src, base, disp, imm, cc⟩ 0).at 0).c]) mixed [tC (by (simp only [sl2] at *; omega) : (decide ((↑k : Int) < (↑(List.length l) : Int))) = true), tT, .get _ _ _ hx, .ret _ _ _ c0, tC hs, tF, tF, tT, .ret _ _ _ c1, tC (nt (eqI 0 true (eq_of_beq he)))] (by kernel_rfl)).cast (by first | rfl | (have e1 : IntKind.i64.wrap ((k : Int) + 1) = ((k + 1 : Nat) : Int) := (by rw [w_i64]; omega); first | (rw [e1]; done) | (rw [e1]; rfl))) (by first | rfl | (have e1 : IntKind.i64.wrap ((k : Int) + 1) = ((k + 1 : Nat) : Int) := (by rw [w_i64]; omega); first | (rw [e1]; done) | (rw [e1]; rfl)))
theorem rdn_xe (l : List D) (k : Nat) (r : RgS) (m : MachS) (hb : l.length ≤ 9223372036854775807) (op w dst src base disp imm cc reg phys num to : Int) (ho : op ≤ 127) (hk : k < l.length) (hx : l[k]? = some (irD 0 op w dst src base disp imm cc reg phys num to)) (hs : stopsI 0 op = false) (he : ((execE m ⟨op, w, dst, src, base, disp, imm, cc⟩ 0) == 0) = false) : RoundRun Tryz.prog (loopB Tryz.f26 0) ⟨[4, 5, 6, 7], [1, 2], []⟩ 6 [.lst .no 13 l, uu, uu, .ptr false 0 0, .ptr false 1 0, .ptr false 2 0, uu, uu, .ptr false 3 0, uu, uu, .ptr false 5 0, .int .i64 (↑k : Int), uu, uu, uu, uu, uu, uu, uu, uu, uu, uu, uu, uu, uu, uu, uu, uu, uu, uu, uu, uu, uu, uu, uu, uu, uu, uu, uu, uu, uu, uu, uu, uu, uu, uu, uu, uu, uu, uu, uu, uu, uu, uu, uu, uu, uu, uu, uu, uu, uu, uu, uu, uu, uu, uu, uu, uu, uu, uu, uu, uu, uu, uu, uu, uu, uu, uu, uu, uu, uu, uu] [Ob.box r.c, Ob.box RgS.zero.c, Ob.box MachS.zero.c, Ob.box RgS.zero.c, Ob.dead, Ob.box m.c] (Ex.ret) [uu, uu, uu, uu, .ptr false 1 0, .ptr false 2 0, .int .i64 0, .int .i64 (execE m ⟨op, w, dst, src, base, disp, imm, cc⟩ 0), uu, uu, uu, uu, uu, uu, uu, uu, uu, uu, uu, uu, uu, uu, uu, uu, uu, uu, uu, uu, uu, uu, uu, uu, uu, uu, uu, uu, uu, uu, uu, uu, uu, uu, uu, uu, uu, uu, uu, uu, uu, uu, uu, uu, uu, uu, uu, uu, uu, uu, uu, uu, uu, uu, uu, uu, uu, uu, uu, uu, uu, uu, uu, uu, uu, uu, uu, uu, uu, uu, uu, uu, uu, uu, uu] ([Ob.dead, Ob.box RgS.zero.c, Ob.box MachS.zero.c, Ob.dead, Ob.dead, Ob.dead]) := by
 have c0 := @ristops_ok 0 op w dst src base disp imm cc reg phys num to (by decide) (by decide)
 have c1 := @rexec_d_ok m.q0 m.q1 m.q2 m.q3 m.q4 m.q5 m.q6 m.q7 m.q8 m.q9 m.q10 m.q11 m.q12 m.q13 m.q14 m.q15 m.pc m.fk m.fc m.fz m.fs m.fo op w dst src base disp imm cc 0 ho
 exact (RoundRun.of_eval (sp := ⟨[4, 5, 6, 7], [1, 2], []⟩) (n0 := 6) (ex := Ex.ret) (t' := [uu, uu, uu, uu, .ptr false 1 0, .ptr false 2 0, .int .i64 0, .int .i64 (execE m ⟨op, w, dst, src, base, disp, imm, cc⟩ 0), uu, uu, uu, uu, uu, uu, uu, uu, uu, uu, uu, uu, uu, uu, uu, uu, uu, uu, uu, uu, uu, uu, uu, uu, uu, uu, uu, uu, uu, uu, uu, uu, uu, uu, uu, uu, uu, uu, uu, uu, uu, uu, uu, uu, uu, uu, uu, uu, uu, uu, uu, uu, uu, uu, uu, uu, uu, uu, uu, uu, uu, uu, uu, uu, uu, uu, uu, uu, uu, uu, uu, uu, uu, uu, uu]) (s' := [Ob.dead, Ob.box RgS.zero.c, Ob.box MachS.zero.c, Ob.dead, Ob.dead, Ob.dead]) mixed [tC (by (simp only [sl2] at *; omega) : (decide ((↑k : Int) < (↑(List.length l) : Int))) = true), tT, .get _ _ _ hx, .ret _ _ _ c0, tC hs, tF, tF, tT, .ret _ _ _ c1, tC (nt he)] (by kernel_rfl)).cast (by first | rfl | (have e1 : IntKind.i64.wrap ((k : Int) + 1) = ((k + 1 : Nat) : Int) := (by rw [w_i64]; omega); first | (rw [e1]; done) | (rw [e1]; rfl))) (by first | rfl | (have e1 : IntKind.i64.wrap ((k : Int) + 1) = ((k + 1 : Nat) : Int) := (by rw [w_i64]; omega); first | (rw [e1]; done) | (rw [e1]; rfl)))
end Go.Proofs.YtojgmjfcfpclbaaGreat

namespace Go.Proofs.YtojgmjfcfpclbaaGreat
open Go Go.Ev
theorem imay_c_ok (kind op w dst src base disp imm cc reg phys num to : Int) (a0 : -128 ≤ kind) (a1 : kind ≤ 127) (ho : op ≤ 127) (hc : cc ≤ 127) (hp : phys ≤ 127) (g0 : -128 ≤ reg) (g1 : reg ≤ 127) :
  Ret Tryz.prog 29 [irD kind op w dst src base disp imm cc reg phys num to] (.bool (mayI kind op w dst src base disp imm cc reg phys num to)) := by
 by_cases h : 0 ≤ kind ∧ kind ≤ 6
 ·have hk : kind = 0 ∨ kind = 1 ∨ kind = 2 ∨ kind = 3 ∨ kind = 4 ∨ kind = 5 ∨ kind = 6 := by omega
  rcases hk with rfl | rfl | rfl | rfl | rfl | rfl | rfl
  ·exact imay_0_ok _ _ _ _ _ _ _ _ _ _ _ _ ho hc hp g0 g1
  ·exact imay_1_ok _ _ _ _ _ _ _ _ _ _ _ _ ho hc hp g0 g1
  ·exact imay_2_ok _ _ _ _ _ _ _ _ _ _ _ _ ho hc hp g0 g1
  ·exact imay_3_ok _ _ _ _ _ _ _ _ _ _ _ _ ho hc hp g0 g1
  ·exact imay_4_ok _ _ _ _ _ _ _ _ _ _ _ _ ho hc hp g0 g1
  ·exact imay_5_ok _ _ _ _ _ _ _ _ _ _ _ _ ho hc hp g0 g1
  ·exact imay_6_ok _ _ _ _ _ _ _ _ _ _ _ _ ho hc hp g0 g1
 ·have e : mayI kind op w dst src base disp imm cc reg phys num to = false := by
   unfold mayI
   rw [if_neg (by omega), if_neg (by omega), if_neg (by omega), if_neg (by omega), if_neg (by omega), if_neg (by omega)]
  rw [e]
  by_cases h2 : kind < 0
  ·exact imay_lo_ok _ _ _ _ _ _ _ _ _ _ _ _ _ h2 a0
  ·exact imay_hi_ok _ _ _ _ _ _ _ _ _ _ _ _ _ (by omega) a1
end Go.Proofs.YtojgmjfcfpclbaaGreat

namespace Go.Proofs.YtojgmjfcfpclbaaGreat
open Go Go.Ev
set_option maxRecDepth 100000
set_option maxHeartbeats 8000000
theorem idx_done (l : List D) (k : Nat) (hb : l.length ≤ 9223372036854775807) (hk : l.length ≤ k) : RoundRun Tryz.prog (loopB Tryz.f72 0) ⟨[], [], []⟩ 0 [.lst .no 13 l, D.fn (Fn.func (73 : FuncId)) [] [], uu, uu, uu, uu, uu, .int .i64 (↑(List.length l) : Int), .int .i64 (↑k : Int), uu, uu, uu, uu, uu, uu, uu, uu, uu, uu] [] (Ex.exit (0 : Nat)) [uu, uu, uu, uu, uu, uu, uu, uu, uu, uu, uu, uu, uu, uu, uu, uu, uu, uu, uu] ([]) := by
 exact (RoundRun.of_eval (sp := ⟨[], [], []⟩) (n0 := 0) (ex := Ex.exit (0 : Nat)) (t' := [uu, uu, uu, uu, uu, uu, uu, uu, uu, uu, uu, uu, uu, uu, uu, uu, uu, uu, uu]) (s' := []) mixed [tC (by (simp only [sl2] at *; omega) : (decide ((↑k : Int) < (↑(List.length l) : Int))) = false)] (by kernel_rfl)).cast (by rfl) (by rfl)
theorem idx_ok (l : List D) (k : Nat) (hb : l.length ≤ 9223372036854775807) (hk : k < l.length) (kind op w dst src base disp imm cc reg phys num to : Int) (a0 : -128 ≤ kind) (a1 : kind ≤ 127) (ho : op ≤ 127) (hc : cc ≤ 127) (hp : phys ≤ 127) (g0 : -128 ≤ reg) (g1 : reg ≤ 127) (hx : l[k]? = some (irD kind op w dst src base disp imm cc reg phys num to)) (he : mayI kind op w dst src base disp imm cc reg phys num to = true) : RoundRun Tryz.prog (loopB Tryz.f72 0) ⟨[0, 1, 7, 8], [], []⟩ 0 [.lst .no 13 l, D.fn (Fn.func (73 : FuncId)) [] [], uu, uu, uu, uu, uu, .int .i64 (↑(List.length l) : Int), .int .i64 (↑k : Int), uu, uu, uu, uu, uu, uu, uu, uu, uu, uu] [] (Ex.norm) [.lst .no 13 l, D.fn (Fn.func (73 : FuncId)) [] [], uu, uu, uu, uu, uu, .int .i64 (↑(List.length l) : Int), .int .i64 (↑(k + (1 : Nat)) : Int), uu, uu, uu, uu, uu, uu, uu, uu, uu, uu] ([]) := by
 have c0 := @imay_c_ok kind op w dst src base disp imm cc reg phys num to a0 a1 ho hc hp g0 g1
 exact (RoundRun.of_eval (sp := ⟨[0, 1, 7, 8], [], []⟩) (n0 := 0) (ex := Ex.norm) (t' := [.lst .no 13 l, D.fn (Fn.func (73 : FuncId)) [] [], uu, uu, uu, uu, uu, .int .i64 (↑(List.length l) : Int), .int .i64 (IntKind.wrap IntKind.i64 ((↑k : Int) + 1)), uu, uu, uu, uu, uu, uu, uu, uu, uu, uu]) (s' := []) mixed [tC (by (simp only [sl2] at *; omega) : (decide ((↑k : Int) < (↑(List.length l) : Int))) = true), tT, .get _ _ _ hx, .inl, .ret _ _ _ c0, tC (nt he)] (by kernel_rfl)).cast (by first | rfl | (congr; rw [w_i64]; omega)) (by first | rfl | (congr; rw [w_i64]; omega))
theorem idx_bad (l : List D) (k : Nat) (hb : l.length ≤ 9223372036854775807) (hk : k < l.length) (kind op w dst src base disp imm cc reg phys num to : Int) (a0 : -128 ≤ kind) (a1 : kind ≤ 127) (ho : op ≤ 127) (hc : cc ≤ 127) (hp : phys ≤ 127) (g0 : -128 ≤ reg) (g1 : reg ≤ 127) (hx : l[k]? = some (irD kind op w dst src base disp imm cc reg phys num to)) (he : mayI kind op w dst src base disp imm cc reg phys num to = false) : RoundRun Tryz.prog (loopB Tryz.f72 0) ⟨[4], [], []⟩ 0 [.lst .no 13 l, D.fn (Fn.func (73 : FuncId)) [] [], uu, uu, uu, uu, uu, .int .i64 (↑(List.length l) : Int), .int .i64 (↑k : Int), uu, uu, uu, uu, uu, uu, uu, uu, uu, uu] [] (Ex.ret) [uu, uu, uu, uu, .int .i64 (↑k : Int), uu, uu, uu, uu, uu, uu, uu, uu, uu, uu, uu, uu, uu, uu] ([]) := by
 have c0 := @imay_c_ok kind op w dst src base disp imm cc reg phys num to a0 a1 ho hc hp g0 g1
 exact (RoundRun.of_eval (sp := ⟨[4], [], []⟩) (n0 := 0) (ex := Ex.ret) (t' := [uu, uu, uu, uu, .int .i64 (↑k : Int), uu, uu, uu, uu, uu, uu, uu, uu, uu, uu, uu, uu, uu, uu]) (s' := []) mixed [tC (by (simp only [sl2] at *; omega) : (decide ((↑k : Int) < (↑(List.length l) : Int))) = true), tT, .get _ _ _ hx, .inl, .ret _ _ _ c0, tC (nt he)] (by kernel_rfl)).cast (by rfl) (by rfl)
end Go.Proofs.YtojgmjfcfpclbaaGreat

namespace Go.Proofs.YtojgmjfcfpclbaaGreat
open Go Go.Ev
set_option maxRecDepth 100000
theorem idx_run_n (l : List IrS) (hb : (l.map IrS.d).length ≤ 9223372036854775807) (ho : AllOk l) (hm : badI l = none) :
  LoopRun Tryz.prog 0 (.loop (loopB Tryz.f72 0)) [.lst .no 13 (l.map IrS.d), .fn (Fn.func 73) [] [], uu, uu, uu, uu, uu, .int .i64 ((l.map IrS.d).length : Int), .int .i64 0, uu, uu, uu, uu, uu, uu, uu, uu, uu, uu] [] (.exit 0) [uu, uu, uu, uu, uu, uu, uu, uu, uu, uu, uu, uu, uu, uu, uu, uu, uu, uu, uu] [] := by
 have hall : ∀ s ∈ l, s.may = true := by
  unfold badI at hm
  rw [List.findIdx?_eq_none_iff] at hm
  intro s hs
  simpa using hm s hs
 have key : ∀ (n k : Nat), n + k = l.length → Rounds Tryz.prog (loopB Tryz.f72 0) 0 [.lst .no 13 (l.map IrS.d), .fn (Fn.func 73) [] [], uu, uu, uu, uu, uu, .int .i64 ((l.map IrS.d).length : Int), .int .i64 (k : Int), uu, uu, uu, uu, uu, uu, uu, uu, uu, uu] [] (.exit 0) [uu, uu, uu, uu, uu, uu, uu, uu, uu, uu, uu, uu, uu, uu, uu, uu, uu, uu, uu] [] := by
  intro n
  induction n with
  | zero =>
   intro k hk
   exact Rounds.last (idx_done (l.map IrS.d) k hb (by simp; omega)) (by simp)
  | succ n ih =>
   intro k hk
   have hx : l[k]? = some l[k] := by simp
   obtain ⟨a0, a1, ho', hc, hp, g0, g1⟩ := ho _ (List.getElem_mem (show k < l.length by omega))
   exact Rounds.more (idx_ok (l.map IrS.d) k hb (by simp; omega) _ _ _ _ _ _ _ _ _ _ _ _ _ a0 a1 ho' hc hp g0 g1 (get_map hx) (hall _ (List.getElem_mem (show k < l.length by omega)))) (ih (k + 1) (by omega))
 exact LoopRun.of_rounds (by decide) (key l.length 0 (by omega))
theorem idx_run_s (l : List IrS) (j : Nat) (hb : (l.map IrS.d).length ≤ 9223372036854775807) (ho : AllOk l) (hm : badI l = some j) :
  LoopRun Tryz.prog 0 (.loop (loopB Tryz.f72 0)) [.lst .no 13 (l.map IrS.d), .fn (Fn.func 73) [] [], uu, uu, uu, uu, uu, .int .i64 ((l.map IrS.d).length : Int), .int .i64 0, uu, uu, uu, uu, uu, uu, uu, uu, uu, uu] [] .ret [uu, uu, uu, uu, .int .i64 (j : Int), uu, uu, uu, uu, uu, uu, uu, uu, uu, uu, uu, uu, uu, uu] [] := by
 unfold badI at hm
 rw [List.findIdx?_eq_some_iff_getElem] at hm
 obtain ⟨hj, hbad, hbefore⟩ := hm
 have key : ∀ (n k : Nat), n + k = j → Rounds Tryz.prog (loopB Tryz.f72 0) 0 [.lst .no 13 (l.map IrS.d), .fn (Fn.func 73) [] [], uu, uu, uu, uu, uu, .int .i64 ((l.map IrS.d).length : Int), .int .i64 (k : Int), uu, uu, uu, uu, uu, uu, uu, uu, uu, uu] [] .ret [uu, uu, uu, uu, .int .i64 (j : Int), uu, uu, uu, uu, uu, uu, uu, uu, uu, uu, uu, uu, uu, uu] [] := by
  intro n
  induction n with
  | zero =>
   intro k hk
   obtain rfl : k = j := by omega
   have hx : l[k]? = some l[k] := by simp
   obtain ⟨a0, a1, ho', hc, hp, g0, g1⟩ := ho _ (List.getElem_mem hj)
   exact Rounds.last (idx_bad (l.map IrS.d) k hb (by simpa using hj) _ _ _ _ _ _ _ _ _ _ _ _ _ a0 a1 ho' hc hp g0 g1 (get_map hx) (show l[k].may = false by simpa using hbad)) (by simp)
  | succ n ih =>
   intro k hk
   have hlt : k < l.length := by omega
   have hx : l[k]? = some l[k] := by simp
   obtain ⟨a0, a1, ho', hc, hp, g0, g1⟩ := ho _ (List.getElem_mem hlt)
   exact Rounds.more (idx_ok (l.map IrS.d) k hb (by simpa using hlt) _ _ _ _ _ _ _ _ _ _ _ _ _ a0 a1 ho' hc hp g0 g1 (get_map hx) (show l[k].may = true by simpa using hbefore k (by omega))) (ih (k + 1) (by omega))
 exact LoopRun.of_rounds (by decide) (key j 0 (by omega))
end Go.Proofs.YtojgmjfcfpclbaaGreat

namespace Go.Proofs.YtojgmjfcfpclbaaGreat
open Go Go.Ev
set_option maxRecDepth 100000
set_option maxHeartbeats 8000000
theorem xlen_ok (op w dst src base disp imm cc : Int) (ho : op ≤ 127) : Ret Tryz.prog 47 ([xD op w dst src base disp imm cc]) (.int .i64 (lenX op w dst src base disp imm cc)) := by
 have c0 := @bytes_any_ok op w dst src base disp imm cc ho
 exact (o47 (d := .int .i64 (↑(List.length (bytesL op w dst src base disp imm cc)) : Int)) [.ret _ _ _ c0] (by kernel_rfl)).to (by simp [wk, lenX])
end Go.Proofs.YtojgmjfcfpclbaaGreat

namespace Go.Proofs.YtojgmjfcfpclbaaGreat
open Go Go.Ev
set_option maxRecDepth 100000
set_option maxHeartbeats 8000000
theorem exec_2_ok (m : MachS) (w dst src base disp imm cc ld : Int) (d0 : 0 ≤ dst) (d1 : dst ≤ 15) (s0 : 0 ≤ src) (s1 : src ≤ 15) (b0 : 0 ≤ base) (b1 : base ≤ 15) (hm : mayX 2 w dst src base disp imm cc = true) (hw : longM w = true)  : Ret Tryz.prog 8 ([m.d, xD 2 w dst src base disp imm cc, .int .u64 ld]) (.tup [(doS (m.at (u64 (m.pc + u64 (lenX 2 w dst src base disp imm cc)))) ⟨2, w, dst, src, base, disp, imm, cc⟩ ld).1.d, .int .i64 0]) := by
 have c0 := @mayX_ok 2 w dst src base disp imm cc (by decide)
 rw [show (mayX 2 w dst src base disp imm cc) = true from hm] at c0
 have c1 := @xlen_ok 2 w dst src base disp imm cc (by decide)
 have c2 := @bdo_0_ok w (rg (MachS.rl m) dst) (rg (MachS.rl m) src) hw
 have c3 := @fadd_ok w (rg (MachS.rl m) dst) (rg (MachS.rl m) src) hw
 have c4 := @writes_any_ok 2 w dst src base disp imm cc (by decide)
 exact (o8 (d := .tup [(doS (m.at (u64 (m.pc + u64 (lenX 2 w dst src base disp imm cc)))) ⟨2, w, dst, src, base, disp, imm, cc⟩ ld).1.d, .int .i64 0]) ([.ret _ _ _ c0, tF, .ret _ _ _ c1, tT, .get ([D.fn (Fn.func 48) [D.ptr false 4 0] [], D.fn (Fn.func 49) [D.ptr false 4 0] [], D.nilf, D.nilf, D.nilf, D.nilf, D.nilf, D.nilf, D.nilf, D.nilf, D.nilf, D.nilf, D.nilf, D.nilf, D.nilf, D.nilf, D.nilf, D.nilf, D.nilf, D.nilf, D.nilf, D.nilf, D.nilf, D.nilf, D.fn (Fn.func 50) [D.ptr false 4 0] [], D.fn (Fn.func 51) [D.ptr false 4 0] [], D.fn (Fn.func 52) [D.ptr false 4 0] [], D.fn (Fn.func 53) [D.ptr false 4 0] [], D.fn (Fn.func 54) [D.ptr false 4 0] [], D.fn (Fn.func 55) [D.ptr false 4 0] [], D.fn (Fn.func 56) [D.ptr false 4 0] [], D.fn (Fn.func 57) [D.ptr false 4 0] []]) 2 (D.nilf) rfl, tT, .inl, .inl, .keep [(4, Ob.box (MachS.cw m (pcX m 2 w dst src base disp imm cc) (xT 2 w dst src base disp imm cc ld)))], .mget ([(2, .int .i8 0), (9, .int .i8 0), (3, .int .i8 4), (10, .int .i8 4), (4, .int .i8 5), (11, .int .i8 5), (8, .int .i8 5), (15, .int .i8 5), (5, .int .i8 1), (12, .int .i8 1), (7, .int .i8 1), (14, .int .i8 1), (6, .int .i8 10), (13, .int .i8 10), (16, .int .i8 2), (17, .int .i8 6), (20, .int .i8 6), (18, .int .i8 7), (21, .int .i8 7), (19, .int .i8 12), (22, .int .i8 12), (23, .int .i8 8)]) 2 (some (.int .i8 0)) rfl, .tst _ true (in16 d0 d1), .get _ _ _ (@get_regm m dst ((fT m (pcX m 2 w dst src base disp imm cc) (xT 2 w dst src base disp imm cc ld))) d0 d1), .inl] ++ List.replicate 24 tF ++ [.tst _ true (in16 s0 s1), .get _ _ _ (@get_regm m src ((fT m (pcX m 2 w dst src base disp imm cc) (xT 2 w dst src base disp imm cc ld))) s0 s1), .keep [(4, Ob.box (MachS.cw m (pcX m 2 w dst src base disp imm cc) (xT 2 w dst src base disp imm cc ld)))], .ret _ _ _ c2, tF, tT, .ret _ _ _ c3, .ret _ _ _ c4, tC (nt (@wr_nz 2 w dst src base disp imm cc hm d0 d1 (rfl : true = true))), .tst _ true (in16 d0 d1), .putA _ _ _ _ (@put_regm m dst (doM 0 w (rg (MachS.rl m) dst) (rg (MachS.rl m) src)) ([.bool true, .bool (addC w (rg (MachS.rl m) dst) (rg (MachS.rl m) src)), .bool (cutM (u64 (rg (MachS.rl m) dst + rg (MachS.rl m) src)) w == 0), .bool (negM (u64 (rg (MachS.rl m) dst + rg (MachS.rl m) src)) w), .bool (addO w (rg (MachS.rl m) dst) (rg (MachS.rl m) src)), .int .u64 (pcX m 2 w dst src base disp imm cc), .int .i8 2, .int .i8 w, .int .i8 dst, .int .i8 src, .int .i8 base, .int .i64 disp, .int .i64 imm, .int .i8 cc, .int .u64 ld]) d0 d1), tF]) (by kernel_rfl))
end Go.Proofs.YtojgmjfcfpclbaaGreat
