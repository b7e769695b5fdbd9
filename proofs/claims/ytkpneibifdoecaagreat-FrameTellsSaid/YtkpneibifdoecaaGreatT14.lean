import Derived.Test.YtkpneibifdoecaaGreatT05
import Derived.Test.YtkpneibifdoecaaGreatT06
import Derived.Test.YtkpneibifdoecaaGreatT11
import Derived.Test.YtkpneibifdoecaaGreatT13
open List renaming replicate→Vt,length→VD,getElem_mem→Wr
open Bool renaming eq_iff_iff→Vw,false_and→VK,and_false→VL,and_true→VM,true_and→VR,false_eq_true→Wj,and_eq_false_iff→WT
open BitVec renaming ofInt→VB,toNat→Wi
open Go.Fn renaming func→VE
open Go renaming IntKind→W3
/- Contracts and plain laws that a statement's proof leans on (texts merged:XS2,XW,XRD,I0,I1H,I1,I2). -/
set_option linter.unusedVariables false
set_option linter.unusedSimpArgs false
set_option maxRecDepth 100000
set_option maxHeartbeats 8000000
namespace Go.Proofs.YtkpneibifdoecaaGreat
open Go Go.Ev
def bC (QC:Int) (Uy:Nat):Prop:= ∀(w dst src base ai au cc:Int) (d0:0≤dst) (d1:dst≤15) (s0:0≤src) (s1:src≤15) (b0:0≤base) (b1:base≤15) (hm:av QC w dst src base ai au cc=true),aJ Tryz.prog Uy ([xD QC w dst src base ai au cc]) (.int .i64 (sB QC dst src base))
theorem yb:bC 0 121:=by
 intro w dst src base ai au cc d0 d1 s0 s1 b0 b1 hm
 have c0:= @aU 0 w dst src base ai au cc (by decide)
 rw [hm] at c0
 have c1:= @bh 0 (by decide)
 have c2:= @ca src s0 s1
 exact (eP (d:= .int .i64 (cE src)) [.ret _ _ _ c0,tF,.ret _ _ _ c1,tT,tT,tT,.ret _ _ _ c2] (by kernel_rfl)).to (by rfl)
theorem ya:bC 1 121:=by
 intro w dst src base ai au cc d0 d1 s0 s1 b0 b1 hm
 have c0:= @aU 1 w dst src base ai au cc (by decide)
 rw [hm] at c0
 have c1:= @bh 1 (by decide)
 exact (eP (d:= .int .i64 0) [.ret _ _ _ c0,tF,.ret _ _ _ c1,tF,tF,tF,tT,tT,tT] (by kernel_rfl)).to (by rfl)
theorem x9:bC 2 121:=by
 intro w dst src base ai au cc d0 d1 s0 s1 b0 b1 hm
 have c0:= @aU 2 w dst src base ai au cc (by decide)
 rw [hm] at c0
 have c1:= @bh 2 (by decide)
 have c2:= @ea dst d0 d1 src s0 s1
 exact (eP (d:= .int .i64 (fS (cE dst) (cE src))) [.ret _ _ _ c0,tF,.ret _ _ _ c1,tT,tT,tF,.ret _ _ _ c2] (by kernel_rfl)).to (by rfl)
theorem x8:bC 3 121:=by
 intro w dst src base ai au cc d0 d1 s0 s1 b0 b1 hm
 have c0:= @aU 3 w dst src base ai au cc (by decide)
 rw [hm] at c0
 have c1:= @bh 3 (by decide)
 have c2:= @ea dst d0 d1 src s0 s1
 exact (eP (d:= .int .i64 (fS (cE dst) (cE src))) [.ret _ _ _ c0,tF,.ret _ _ _ c1,tT,tT,tF,.ret _ _ _ c2] (by kernel_rfl)).to (by rfl)
theorem x7:bC 4 121:=by
 intro w dst src base ai au cc d0 d1 s0 s1 b0 b1 hm
 have c0:= @aU 4 w dst src base ai au cc (by decide)
 rw [hm] at c0
 have c1:= @bh 4 (by decide)
 have c2:= @ea dst d0 d1 src s0 s1
 exact (eP (d:= .int .i64 (fS (cE dst) (cE src))) [.ret _ _ _ c0,tF,.ret _ _ _ c1,tT,tT,tF,.ret _ _ _ c2] (by kernel_rfl)).to (by rfl)
theorem x6:bC 5 121:=by
 intro w dst src base ai au cc d0 d1 s0 s1 b0 b1 hm
 have c0:= @aU 5 w dst src base ai au cc (by decide)
 rw [hm] at c0
 have c1:= @bh 5 (by decide)
 have c2:= @ea dst d0 d1 src s0 s1
 exact (eP (d:= .int .i64 (fS (cE dst) (cE src))) [.ret _ _ _ c0,tF,.ret _ _ _ c1,tT,tT,tF,.ret _ _ _ c2] (by kernel_rfl)).to (by rfl)
theorem xZ:bC 6 121:=by
 intro w dst src base ai au cc d0 d1 s0 s1 b0 b1 hm
 have c0:= @aU 6 w dst src base ai au cc (by decide)
 rw [hm] at c0
 have c1:= @bh 6 (by decide)
 have c2:= @ea dst d0 d1 src s0 s1
 exact (eP (d:= .int .i64 (fS (cE dst) (cE src))) [.ret _ _ _ c0,tF,.ret _ _ _ c1,tT,tT,tF,.ret _ _ _ c2] (by kernel_rfl)).to (by rfl)
theorem xY:bC 7 121:=by
 intro w dst src base ai au cc d0 d1 s0 s1 b0 b1 hm
 have c0:= @aU 7 w dst src base ai au cc (by decide)
 rw [hm] at c0
 have c1:= @bh 7 (by decide)
 have c2:= @ea dst d0 d1 src s0 s1
 exact (eP (d:= .int .i64 (fS (cE dst) (cE src))) [.ret _ _ _ c0,tF,.ret _ _ _ c1,tT,tT,tF,.ret _ _ _ c2] (by kernel_rfl)).to (by rfl)
theorem xX:bC 8 121:=by
 intro w dst src base ai au cc d0 d1 s0 s1 b0 b1 hm
 have c0:= @aU 8 w dst src base ai au cc (by decide)
 rw [hm] at c0
 have c1:= @bh 8 (by decide)
 have c2:= @ea dst d0 d1 src s0 s1
 exact (eP (d:= .int .i64 (fS (cE dst) (cE src))) [.ret _ _ _ c0,tF,.ret _ _ _ c1,tT,tT,tF,.ret _ _ _ c2] (by kernel_rfl)).to (by rfl)
theorem xW:bC 9 121:=by
 intro w dst src base ai au cc d0 d1 s0 s1 b0 b1 hm
 have c0:= @aU 9 w dst src base ai au cc (by decide)
 rw [hm] at c0
 have c1:= @bh 9 (by decide)
 have c2:= @ca dst d0 d1
 exact (eP (d:= .int .i64 (cE dst)) [.ret _ _ _ c0,tF,.ret _ _ _ c1,tF,tF,tF,tT,tT,tF,.ret _ _ _ c2] (by kernel_rfl)).to (by rfl)
theorem vN:bC 10 121:=by
 intro w dst src base ai au cc d0 d1 s0 s1 b0 b1 hm
 have c0:= @aU 10 w dst src base ai au cc (by decide)
 rw [hm] at c0
 have c1:= @bh 10 (by decide)
 have c2:= @ca dst d0 d1
 exact (eP (d:= .int .i64 (cE dst)) [.ret _ _ _ c0,tF,.ret _ _ _ c1,tF,tF,tF,tT,tT,tF,.ret _ _ _ c2] (by kernel_rfl)).to (by rfl)
theorem vM:bC 11 121:=by
 intro w dst src base ai au cc d0 d1 s0 s1 b0 b1 hm
 have c0:= @aU 11 w dst src base ai au cc (by decide)
 rw [hm] at c0
 have c1:= @bh 11 (by decide)
 have c2:= @ca dst d0 d1
 exact (eP (d:= .int .i64 (cE dst)) [.ret _ _ _ c0,tF,.ret _ _ _ c1,tF,tF,tF,tT,tT,tF,.ret _ _ _ c2] (by kernel_rfl)).to (by rfl)
theorem vL:bC 12 121:=by
 intro w dst src base ai au cc d0 d1 s0 s1 b0 b1 hm
 have c0:= @aU 12 w dst src base ai au cc (by decide)
 rw [hm] at c0
 have c1:= @bh 12 (by decide)
 have c2:= @ca dst d0 d1
 exact (eP (d:= .int .i64 (cE dst)) [.ret _ _ _ c0,tF,.ret _ _ _ c1,tF,tF,tF,tT,tT,tF,.ret _ _ _ c2] (by kernel_rfl)).to (by rfl)
theorem vK:bC 13 121:=by
 intro w dst src base ai au cc d0 d1 s0 s1 b0 b1 hm
 have c0:= @aU 13 w dst src base ai au cc (by decide)
 rw [hm] at c0
 have c1:= @bh 13 (by decide)
 have c2:= @ca dst d0 d1
 exact (eP (d:= .int .i64 (cE dst)) [.ret _ _ _ c0,tF,.ret _ _ _ c1,tF,tF,tF,tT,tT,tF,.ret _ _ _ c2] (by kernel_rfl)).to (by rfl)
theorem vJ:bC 14 121:=by
 intro w dst src base ai au cc d0 d1 s0 s1 b0 b1 hm
 have c0:= @aU 14 w dst src base ai au cc (by decide)
 rw [hm] at c0
 have c1:= @bh 14 (by decide)
 have c2:= @ca dst d0 d1
 exact (eP (d:= .int .i64 (cE dst)) [.ret _ _ _ c0,tF,.ret _ _ _ c1,tF,tF,tF,tT,tT,tF,.ret _ _ _ c2] (by kernel_rfl)).to (by rfl)
theorem vI:bC 15 121:=by
 intro w dst src base ai au cc d0 d1 s0 s1 b0 b1 hm
 have c0:= @aU 15 w dst src base ai au cc (by decide)
 rw [hm] at c0
 have c1:= @bh 15 (by decide)
 have c2:= @ca dst d0 d1
 exact (eP (d:= .int .i64 (cE dst)) [.ret _ _ _ c0,tF,.ret _ _ _ c1,tF,tF,tF,tT,tT,tF,.ret _ _ _ c2] (by kernel_rfl)).to (by rfl)
theorem vH:bC 16 121:=by
 intro w dst src base ai au cc d0 d1 s0 s1 b0 b1 hm
 have c0:= @aU 16 w dst src base ai au cc (by decide)
 rw [hm] at c0
 have c1:= @bh 16 (by decide)
 have c2:= @ea dst d0 d1 src s0 s1
 exact (eP (d:= .int .i64 (fS (cE dst) (cE src))) [.ret _ _ _ c0,tF,.ret _ _ _ c1,tF,tT,tT,tF,.ret _ _ _ c2] (by kernel_rfl)).to (by rfl)
theorem vG:bC 17 121:=by
 intro w dst src base ai au cc d0 d1 s0 s1 b0 b1 hm
 have c0:= @aU 17 w dst src base ai au cc (by decide)
 rw [hm] at c0
 have c1:= @bh 17 (by decide)
 have c2:= @ca dst d0 d1
 exact (eP (d:= .int .i64 (cE dst)) [.ret _ _ _ c0,tF,.ret _ _ _ c1,tF,tF,tF,tF,tT,tF,.ret _ _ _ c2] (by kernel_rfl)).to (by rfl)
theorem vF:bC 18 121:=by
 intro w dst src base ai au cc d0 d1 s0 s1 b0 b1 hm
 have c0:= @aU 18 w dst src base ai au cc (by decide)
 rw [hm] at c0
 have c1:= @bh 18 (by decide)
 have c2:= @ca dst d0 d1
 exact (eP (d:= .int .i64 (cE dst)) [.ret _ _ _ c0,tF,.ret _ _ _ c1,tF,tF,tF,tF,tT,tF,.ret _ _ _ c2] (by kernel_rfl)).to (by rfl)
theorem vE:bC 19 121:=by
 intro w dst src base ai au cc d0 d1 s0 s1 b0 b1 hm
 have c0:= @aU 19 w dst src base ai au cc (by decide)
 rw [hm] at c0
 have c1:= @bh 19 (by decide)
 have c2:= @ca dst d0 d1
 exact (eP (d:= .int .i64 (cE dst)) [.ret _ _ _ c0,tF,.ret _ _ _ c1,tF,tF,tF,tF,tT,tF,.ret _ _ _ c2] (by kernel_rfl)).to (by rfl)
theorem vD:bC 20 121:=by
 intro w dst src base ai au cc d0 d1 s0 s1 b0 b1 hm
 have c0:= @aU 20 w dst src base ai au cc (by decide)
 rw [hm] at c0
 have c1:= @bh 20 (by decide)
 have c2:= @ea dst d0 d1 1 (by decide) (by decide)
 exact (eP (d:= .int .i64 (fS (cE dst) 2)) [.ret _ _ _ c0,tF,.ret _ _ _ c1,tF,tF,tF,tF,tF,tT,tF,tF,.ret _ _ _ c2] (by kernel_rfl)).to (by rfl)
theorem vC:bC 21 121:=by
 intro w dst src base ai au cc d0 d1 s0 s1 b0 b1 hm
 have c0:= @aU 21 w dst src base ai au cc (by decide)
 rw [hm] at c0
 have c1:= @bh 21 (by decide)
 have c2:= @ea dst d0 d1 1 (by decide) (by decide)
 exact (eP (d:= .int .i64 (fS (cE dst) 2)) [.ret _ _ _ c0,tF,.ret _ _ _ c1,tF,tF,tF,tF,tF,tT,tF,tF,.ret _ _ _ c2] (by kernel_rfl)).to (by rfl)
theorem vB:bC 22 121:=by
 intro w dst src base ai au cc d0 d1 s0 s1 b0 b1 hm
 have c0:= @aU 22 w dst src base ai au cc (by decide)
 rw [hm] at c0
 have c1:= @bh 22 (by decide)
 have c2:= @ea dst d0 d1 1 (by decide) (by decide)
 exact (eP (d:= .int .i64 (fS (cE dst) 2)) [.ret _ _ _ c0,tF,.ret _ _ _ c1,tF,tF,tF,tF,tF,tT,tF,tF,.ret _ _ _ c2] (by kernel_rfl)).to (by rfl)
theorem vA:bC 23 121:=by
 intro w dst src base ai au cc d0 d1 s0 s1 b0 b1 hm
 have c0:= @aU 23 w dst src base ai au cc (by decide)
 rw [hm] at c0
 have c1:= @bh 23 (by decide)
 have c2:= @ca dst d0 d1
 exact (eP (d:= .int .i64 (cE dst)) [.ret _ _ _ c0,tF,.ret _ _ _ c1,tF,tF,tF,tF,tF,tT,tT,.ret _ _ _ c2] (by kernel_rfl)).to (by rfl)
theorem vz:bC 24 121:=by
 intro w dst src base ai au cc d0 d1 s0 s1 b0 b1 hm
 have c0:= @aU 24 w dst src base ai au cc (by decide)
 rw [hm] at c0
 have c1:= @bh 24 (by decide)
 have c2:= @Fp dst d0 d1
 exact (eP (d:= .int .i64 (fS (fS (cE dst) 1) 4)) [.ret _ _ _ c0,tF,.ret _ _ _ c1,tF,tF,tF,tF,tF,tT,tF,tT,.ret _ _ _ c2] (by kernel_rfl)).to (by rfl)
theorem vy:bC 25 121:=by
 intro w dst src base ai au cc d0 d1 s0 s1 b0 b1 hm
 have c0:= @aU 25 w dst src base ai au cc (by decide)
 rw [hm] at c0
 have c1:= @bh 25 (by decide)
 have c2:= @ea dst d0 d1 src s0 s1
 exact (eP (d:= .int .i64 (fS (cE dst) (cE src))) [.ret _ _ _ c0,tF,.ret _ _ _ c1,tF,tF,tT,tF,.ret _ _ _ c2] (by kernel_rfl)).to (by rfl)
theorem vx:bC 26 121:=by
 intro w dst src base ai au cc d0 d1 s0 s1 b0 b1 hm
 have c0:= @aU 26 w dst src base ai au cc (by decide)
 rw [hm] at c0
 have c1:= @bh 26 (by decide)
 have c2:= @ca base b0 b1
 exact (eP (d:= .int .i64 (cE base)) [.ret _ _ _ c0,tF,.ret _ _ _ c1,tF,tF,tF,tF,tF,tF,tT,.ret _ _ _ c2] (by kernel_rfl)).to (by rfl)
theorem vw:bC 27 121:=by
 intro w dst src base ai au cc d0 d1 s0 s1 b0 b1 hm
 have c0:= @aU 27 w dst src base ai au cc (by decide)
 rw [hm] at c0
 have c1:= @bh 27 (by decide)
 have c2:= @ea base b0 b1 src s0 s1
 exact (eP (d:= .int .i64 (fS (cE base) (cE src))) [.ret _ _ _ c0,tF,.ret _ _ _ c1,tF,tF,tF,tF,tF,tF,tF,tT,.ret _ _ _ c2] (by kernel_rfl)).to (by rfl)
theorem vv:bC 28 121:=by
 intro w dst src base ai au cc d0 d1 s0 s1 b0 b1 hm
 have c0:= @aU 28 w dst src base ai au cc (by decide)
 rw [hm] at c0
 have c1:= @bh 28 (by decide)
 exact (eP (d:= .int .i64 0) ([.ret _ _ _ c0,tF,.ret _ _ _ c1]++Vt 9 tF) (by kernel_rfl)).to (by rfl)
theorem vu:bC 29 121:=by
 intro w dst src base ai au cc d0 d1 s0 s1 b0 b1 hm
 have c0:= @aU 29 w dst src base ai au cc (by decide)
 rw [hm] at c0
 have c1:= @bh 29 (by decide)
 exact (eP (d:= .int .i64 0) ([.ret _ _ _ c0,tF,.ret _ _ _ c1]++Vt 9 tF) (by kernel_rfl)).to (by rfl)
theorem vt:bC 30 121:=by
 intro w dst src base ai au cc d0 d1 s0 s1 b0 b1 hm
 have c0:= @aU 30 w dst src base ai au cc (by decide)
 rw [hm] at c0
 have c1:= @bh 30 (by decide)
 have c2:= @ea 4 (by decide) (by decide) 0 (by decide) (by decide)
 exact (eP (d:= .int .i64 17) ([.ret _ _ _ c0,tF,.ret _ _ _ c1]++Vt 8 tF++ [tT,tT,.ret _ _ _ c2]) (by kernel_rfl)).to (by rfl)
theorem vr:bC 31 121:=by
 intro w dst src base ai au cc d0 d1 s0 s1 b0 b1 hm
 have c0:= @aU 31 w dst src base ai au cc (by decide)
 rw [hm] at c0
 have c1:= @bh 31 (by decide)
 exact (eP (d:= .int .i64 1477) ([.ret _ _ _ c0,tF,.ret _ _ _ c1]++Vt 8 tF++ [tT,tF,.inl,.go 64,tT,tT,.get ([.int .i8 0,.int .i8 7,.int .i8 6,.int .i8 2,.int .i8 10,.int .i8 8]) 0 (.int .i8 0) rfl,tT,tT,tT,.get ([.int .i8 0,.int .i8 7,.int .i8 6,.int .i8 2,.int .i8 10,.int .i8 8]) 1 (.int .i8 7) rfl,tT,tT,tT,.get ([.int .i8 0,.int .i8 7,.int .i8 6,.int .i8 2,.int .i8 10,.int .i8 8]) 2 (.int .i8 6) rfl,tT,tT,tT,.get ([.int .i8 0,.int .i8 7,.int .i8 6,.int .i8 2,.int .i8 10,.int .i8 8]) 3 (.int .i8 2) rfl,tT,tT,tT,.get ([.int .i8 0,.int .i8 7,.int .i8 6,.int .i8 2,.int .i8 10,.int .i8 8]) 4 (.int .i8 10) rfl,tT,tT,tT,.get ([.int .i8 0,.int .i8 7,.int .i8 6,.int .i8 2,.int .i8 10,.int .i8 8]) 5 (.int .i8 8) rfl,tT,tF]) (by kernel_rfl)).to (by rfl)
def th (QC:Nat):Prop:= ∀(op w dst src base ai au cc:Int) (ho:op≤127) (hm:av op w dst src base ai au cc=false),aJ Tryz.prog QC ([xD op w dst src base ai au cc]) (.int .i64 0)
theorem vq:th 121:=by
 intro op w dst src base ai au cc ho hm
 have c0:= @aU op w dst src base ai au cc ho
 rw [hm] at c0
 exact (eP (d:= .int .i64 0) [.ret _ _ _ c0,tT] (by kernel_rfl)).to (by simp [wk])
def bB (QC:Int) (Uy:Nat):Prop:= ∀(w dst src base ai au cc:Int) (d0:0≤dst) (d1:dst≤15) (s0:0≤src) (s1:src≤15) (b0:0≤base) (b1:base≤15) (hm:av QC w dst src base ai au cc=true),aJ Tryz.prog Uy ([xD QC w dst src base ai au cc]) (.int .i64 (mW QC dst))
theorem tH:bB 0 115:=by
 intro w dst src base ai au cc d0 d1 s0 s1 b0 b1 hm
 have c0:= @aU 0 w dst src base ai au cc (by decide)
 rw [hm] at c0
 have c1:= @ca dst d0 d1
 exact (eQ (d:= .int .i64 (cE dst)) ([.ret _ _ _ c0]++Vt 11 tF++ [.ret _ _ _ c1]) (by kernel_rfl)).to (by rfl)
theorem tG:bB 1 115:=by
 intro w dst src base ai au cc d0 d1 s0 s1 b0 b1 hm
 have c0:= @aU 1 w dst src base ai au cc (by decide)
 rw [hm] at c0
 have c1:= @ca dst d0 d1
 exact (eQ (d:= .int .i64 (cE dst)) ([.ret _ _ _ c0]++Vt 11 tF++ [.ret _ _ _ c1]) (by kernel_rfl)).to (by rfl)
theorem tE:bB 2 115:=by
 intro w dst src base ai au cc d0 d1 s0 s1 b0 b1 hm
 have c0:= @aU 2 w dst src base ai au cc (by decide)
 rw [hm] at c0
 have c1:= @ca dst d0 d1
 exact (eQ (d:= .int .i64 (cE dst)) ([.ret _ _ _ c0]++Vt 11 tF++ [.ret _ _ _ c1]) (by kernel_rfl)).to (by rfl)
theorem tD:bB 3 115:=by
 intro w dst src base ai au cc d0 d1 s0 s1 b0 b1 hm
 have c0:= @aU 3 w dst src base ai au cc (by decide)
 rw [hm] at c0
 have c1:= @ca dst d0 d1
 exact (eQ (d:= .int .i64 (cE dst)) ([.ret _ _ _ c0]++Vt 11 tF++ [.ret _ _ _ c1]) (by kernel_rfl)).to (by rfl)
theorem tB:bB 4 115:=by
 intro w dst src base ai au cc d0 d1 s0 s1 b0 b1 hm
 have c0:= @aU 4 w dst src base ai au cc (by decide)
 rw [hm] at c0
 have c1:= @ca dst d0 d1
 exact (eQ (d:= .int .i64 (cE dst)) ([.ret _ _ _ c0]++Vt 11 tF++ [.ret _ _ _ c1]) (by kernel_rfl)).to (by rfl)
theorem tA:bB 5 115:=by
 intro w dst src base ai au cc d0 d1 s0 s1 b0 b1 hm
 have c0:= @aU 5 w dst src base ai au cc (by decide)
 rw [hm] at c0
 have c1:= @ca dst d0 d1
 exact (eQ (d:= .int .i64 (cE dst)) ([.ret _ _ _ c0]++Vt 11 tF++ [.ret _ _ _ c1]) (by kernel_rfl)).to (by rfl)
theorem tx:bB 6 115:=by
 intro w dst src base ai au cc d0 d1 s0 s1 b0 b1 hm
 have c0:= @aU 6 w dst src base ai au cc (by decide)
 rw [hm] at c0
 have c1:= @ca dst d0 d1
 exact (eQ (d:= .int .i64 (cE dst)) ([.ret _ _ _ c0]++Vt 11 tF++ [.ret _ _ _ c1]) (by kernel_rfl)).to (by rfl)
theorem tw:bB 7 115:=by
 intro w dst src base ai au cc d0 d1 s0 s1 b0 b1 hm
 have c0:= @aU 7 w dst src base ai au cc (by decide)
 rw [hm] at c0
 exact (eQ (d:= .int .i64 0) [.ret _ _ _ c0,tF,tT,tT] (by kernel_rfl)).to (by rfl)
theorem tu:bB 8 115:=by
 intro w dst src base ai au cc d0 d1 s0 s1 b0 b1 hm
 have c0:= @aU 8 w dst src base ai au cc (by decide)
 rw [hm] at c0
 exact (eQ (d:= .int .i64 0) [.ret _ _ _ c0,tF,tF,tT,tT] (by kernel_rfl)).to (by rfl)
theorem tq:bB 9 115:=by
 intro w dst src base ai au cc d0 d1 s0 s1 b0 b1 hm
 have c0:= @aU 9 w dst src base ai au cc (by decide)
 rw [hm] at c0
 have c1:= @ca dst d0 d1
 exact (eQ (d:= .int .i64 (cE dst)) ([.ret _ _ _ c0]++Vt 11 tF++ [.ret _ _ _ c1]) (by kernel_rfl)).to (by rfl)
theorem qZ:bB 10 115:=by
 intro w dst src base ai au cc d0 d1 s0 s1 b0 b1 hm
 have c0:= @aU 10 w dst src base ai au cc (by decide)
 rw [hm] at c0
 have c1:= @ca dst d0 d1
 exact (eQ (d:= .int .i64 (cE dst)) ([.ret _ _ _ c0]++Vt 11 tF++ [.ret _ _ _ c1]) (by kernel_rfl)).to (by rfl)
theorem qY:bB 11 115:=by
 intro w dst src base ai au cc d0 d1 s0 s1 b0 b1 hm
 have c0:= @aU 11 w dst src base ai au cc (by decide)
 rw [hm] at c0
 have c1:= @ca dst d0 d1
 exact (eQ (d:= .int .i64 (cE dst)) ([.ret _ _ _ c0]++Vt 11 tF++ [.ret _ _ _ c1]) (by kernel_rfl)).to (by rfl)
theorem qX:bB 12 115:=by
 intro w dst src base ai au cc d0 d1 s0 s1 b0 b1 hm
 have c0:= @aU 12 w dst src base ai au cc (by decide)
 rw [hm] at c0
 have c1:= @ca dst d0 d1
 exact (eQ (d:= .int .i64 (cE dst)) ([.ret _ _ _ c0]++Vt 11 tF++ [.ret _ _ _ c1]) (by kernel_rfl)).to (by rfl)
theorem qW:bB 13 115:=by
 intro w dst src base ai au cc d0 d1 s0 s1 b0 b1 hm
 have c0:= @aU 13 w dst src base ai au cc (by decide)
 rw [hm] at c0
 have c1:= @ca dst d0 d1
 exact (eQ (d:= .int .i64 (cE dst)) ([.ret _ _ _ c0]++Vt 11 tF++ [.ret _ _ _ c1]) (by kernel_rfl)).to (by rfl)
theorem qV:bB 14 115:=by
 intro w dst src base ai au cc d0 d1 s0 s1 b0 b1 hm
 have c0:= @aU 14 w dst src base ai au cc (by decide)
 rw [hm] at c0
 exact (eQ (d:= .int .i64 0) [.ret _ _ _ c0,tF,tF,tF,tT,tT] (by kernel_rfl)).to (by rfl)
theorem qU:bB 15 115:=by
 intro w dst src base ai au cc d0 d1 s0 s1 b0 b1 hm
 have c0:= @aU 15 w dst src base ai au cc (by decide)
 rw [hm] at c0
 exact (eQ (d:= .int .i64 0) [.ret _ _ _ c0,tF,tF,tF,tF,tT,tT] (by kernel_rfl)).to (by rfl)
theorem qT:bB 16 115:=by
 intro w dst src base ai au cc d0 d1 s0 s1 b0 b1 hm
 have c0:= @aU 16 w dst src base ai au cc (by decide)
 rw [hm] at c0
 have c1:= @ca dst d0 d1
 exact (eQ (d:= .int .i64 (cE dst)) ([.ret _ _ _ c0]++Vt 11 tF++ [.ret _ _ _ c1]) (by kernel_rfl)).to (by rfl)
theorem qS:bB 17 115:=by
 intro w dst src base ai au cc d0 d1 s0 s1 b0 b1 hm
 have c0:= @aU 17 w dst src base ai au cc (by decide)
 rw [hm] at c0
 have c1:= @ca dst d0 d1
 exact (eQ (d:= .int .i64 (cE dst)) ([.ret _ _ _ c0]++Vt 11 tF++ [.ret _ _ _ c1]) (by kernel_rfl)).to (by rfl)
theorem qR:bB 18 115:=by
 intro w dst src base ai au cc d0 d1 s0 s1 b0 b1 hm
 have c0:= @aU 18 w dst src base ai au cc (by decide)
 rw [hm] at c0
 have c1:= @ca dst d0 d1
 exact (eQ (d:= .int .i64 (cE dst)) ([.ret _ _ _ c0]++Vt 11 tF++ [.ret _ _ _ c1]) (by kernel_rfl)).to (by rfl)
theorem qQ:bB 19 115:=by
 intro w dst src base ai au cc d0 d1 s0 s1 b0 b1 hm
 have c0:= @aU 19 w dst src base ai au cc (by decide)
 rw [hm] at c0
 have c1:= @ca dst d0 d1
 exact (eQ (d:= .int .i64 (cE dst)) ([.ret _ _ _ c0]++Vt 11 tF++ [.ret _ _ _ c1]) (by kernel_rfl)).to (by rfl)
theorem qP:bB 20 115:=by
 intro w dst src base ai au cc d0 d1 s0 s1 b0 b1 hm
 have c0:= @aU 20 w dst src base ai au cc (by decide)
 rw [hm] at c0
 have c1:= @ca dst d0 d1
 exact (eQ (d:= .int .i64 (cE dst)) ([.ret _ _ _ c0]++Vt 11 tF++ [.ret _ _ _ c1]) (by kernel_rfl)).to (by rfl)
theorem qO:bB 21 115:=by
 intro w dst src base ai au cc d0 d1 s0 s1 b0 b1 hm
 have c0:= @aU 21 w dst src base ai au cc (by decide)
 rw [hm] at c0
 have c1:= @ca dst d0 d1
 exact (eQ (d:= .int .i64 (cE dst)) ([.ret _ _ _ c0]++Vt 11 tF++ [.ret _ _ _ c1]) (by kernel_rfl)).to (by rfl)
theorem qN:bB 22 115:=by
 intro w dst src base ai au cc d0 d1 s0 s1 b0 b1 hm
 have c0:= @aU 22 w dst src base ai au cc (by decide)
 rw [hm] at c0
 have c1:= @ca dst d0 d1
 exact (eQ (d:= .int .i64 (cE dst)) ([.ret _ _ _ c0]++Vt 11 tF++ [.ret _ _ _ c1]) (by kernel_rfl)).to (by rfl)
theorem qM:bB 23 115:=by
 intro w dst src base ai au cc d0 d1 s0 s1 b0 b1 hm
 have c0:= @aU 23 w dst src base ai au cc (by decide)
 rw [hm] at c0
 have c1:= @ca dst d0 d1
 exact (eQ (d:= .int .i64 (cE dst)) ([.ret _ _ _ c0]++Vt 11 tF++ [.ret _ _ _ c1]) (by kernel_rfl)).to (by rfl)
theorem qL:bB 24 115:=by
 intro w dst src base ai au cc d0 d1 s0 s1 b0 b1 hm
 have c0:= @aU 24 w dst src base ai au cc (by decide)
 rw [hm] at c0
 have c1:= @ea 0 (by decide) (by decide) 2 (by decide) (by decide)
 exact (eQ (d:= .int .i64 5) ([.ret _ _ _ c0]++Vt 8 tF++ [tT,.ret _ _ _ c1]) (by kernel_rfl)).to (by rfl)
theorem qK:bB 25 115:=by
 intro w dst src base ai au cc d0 d1 s0 s1 b0 b1 hm
 have c0:= @aU 25 w dst src base ai au cc (by decide)
 rw [hm] at c0
 have c1:= @ca dst d0 d1
 exact (eQ (d:= .int .i64 (cE dst)) ([.ret _ _ _ c0]++Vt 11 tF++ [.ret _ _ _ c1]) (by kernel_rfl)).to (by rfl)
theorem qJ:bB 26 115:=by
 intro w dst src base ai au cc d0 d1 s0 s1 b0 b1 hm
 have c0:= @aU 26 w dst src base ai au cc (by decide)
 rw [hm] at c0
 have c1:= @ca dst d0 d1
 exact (eQ (d:= .int .i64 (cE dst)) ([.ret _ _ _ c0]++Vt 11 tF++ [.ret _ _ _ c1]) (by kernel_rfl)).to (by rfl)
theorem qI:bB 27 115:=by
 intro w dst src base ai au cc d0 d1 s0 s1 b0 b1 hm
 have c0:= @aU 27 w dst src base ai au cc (by decide)
 rw [hm] at c0
 exact (eQ (d:= .int .i64 0) [.ret _ _ _ c0,tF,tF,tF,tF,tF,tT,tT] (by kernel_rfl)).to (by rfl)
theorem qH:bB 28 115:=by
 intro w dst src base ai au cc d0 d1 s0 s1 b0 b1 hm
 have c0:= @aU 28 w dst src base ai au cc (by decide)
 rw [hm] at c0
 exact (eQ (d:= .int .i64 0) [.ret _ _ _ c0,tF,tF,tF,tF,tF,tF,tT,tT] (by kernel_rfl)).to (by rfl)
theorem qG:bB 29 115:=by
 intro w dst src base ai au cc d0 d1 s0 s1 b0 b1 hm
 have c0:= @aU 29 w dst src base ai au cc (by decide)
 rw [hm] at c0
 exact (eQ (d:= .int .i64 0) [.ret _ _ _ c0,tF,tF,tF,tF,tF,tF,tF,tT] (by kernel_rfl)).to (by rfl)
theorem qF:bB 30 115:=by
 intro w dst src base ai au cc d0 d1 s0 s1 b0 b1 hm
 have c0:= @aU 30 w dst src base ai au cc (by decide)
 rw [hm] at c0
 have c1:= @ca 4 (by decide) (by decide)
 exact (eQ (d:= .int .i64 16) ([.ret _ _ _ c0]++Vt 9 tF++ [tT,.ret _ _ _ c1]) (by kernel_rfl)).to (by rfl)
theorem qE:bB 31 115:=by
 intro w dst src base ai au cc d0 d1 s0 s1 b0 b1 hm
 have c0:= @aU 31 w dst src base ai au cc (by decide)
 rw [hm] at c0
 exact (eQ (d:= .int .i64 2051) ([.ret _ _ _ c0]++Vt 10 tF++ [tT,.inl,.go 64,tT,tT,.get ([.int .i8 0,.int .i8 1,.int .i8 11]) 0 (.int .i8 0) rfl,tT,tT,tT,.get ([.int .i8 0,.int .i8 1,.int .i8 11]) 1 (.int .i8 1) rfl,tT,tT,tT,.get ([.int .i8 0,.int .i8 1,.int .i8 11]) 2 (.int .i8 11) rfl,tT,tF]) (by kernel_rfl)).to (by rfl)
theorem qD:th 115:=by
 intro op w dst src base ai au cc ho hm
 have c0:= @aU op w dst src base ai au cc ho
 rw [hm] at c0
 exact (eQ (d:= .int .i64 0) [.ret _ _ _ c0,tT] (by kernel_rfl)).to (by simp [wk])
theorem ui:bC 0 92:=by
 intro w dst src base ai au cc d0 d1 s0 s1 b0 b1 hm
 have c0:= @aM 0 w dst src base ai au cc
 rw [hm] at c0
 have c1:= @aO src s0 s1
 exact (j4 (d:= .int .i64 (cE src)) [.ret _ _ _ c0,tF,tT,.ret _ _ _ c1] (by kernel_rfl)).to (by rfl)
theorem uh:bC 1 92:=by
 intro w dst src base ai au cc d0 d1 s0 s1 b0 b1 hm
 have c0:= @aM 1 w dst src base ai au cc
 rw [hm] at c0
 exact (j4 (d:= .int .i64 0) [.ret _ _ _ c0,tF,tF,tT,tT] (by kernel_rfl)).to (by rfl)
theorem ug:bC 2 92:=by
 intro w dst src base ai au cc d0 d1 s0 s1 b0 b1 hm
 have c0:= @aM 2 w dst src base ai au cc
 rw [hm] at c0
 have c1:= @bp 2
 have c2:= @aO dst d0 d1
 have c3:= @aO src s0 s1
 exact (j4 (d:= .int .i64 (W3.i64.wrap (↑(Wi (VB (64:Nat) (cE dst)|||VB (64:Nat) (cE src))):Int))) ([.ret _ _ _ c0]++Vt 13 tF++ [.ret _ _ _ c1,tF,tF,tT,tT,.ret _ _ _ c2,.ret _ _ _ c3]) (by kernel_rfl)).to (by rfl)
theorem uf:bC 3 92:=by
 intro w dst src base ai au cc d0 d1 s0 s1 b0 b1 hm
 have c0:= @aM 3 w dst src base ai au cc
 rw [hm] at c0
 have c1:= @bp 3
 have c2:= @aO dst d0 d1
 have c3:= @aO src s0 s1
 exact (j4 (d:= .int .i64 (W3.i64.wrap (↑(Wi (VB (64:Nat) (cE dst)|||VB (64:Nat) (cE src))):Int))) ([.ret _ _ _ c0]++Vt 13 tF++ [.ret _ _ _ c1,tF,tF,tT,tT,.ret _ _ _ c2,.ret _ _ _ c3]) (by kernel_rfl)).to (by rfl)
theorem ue:bC 4 92:=by
 intro w dst src base ai au cc d0 d1 s0 s1 b0 b1 hm
 have c0:= @aM 4 w dst src base ai au cc
 rw [hm] at c0
 have c1:= @bp 4
 have c2:= @aO dst d0 d1
 have c3:= @aO src s0 s1
 exact (j4 (d:= .int .i64 (W3.i64.wrap (↑(Wi (VB (64:Nat) (cE dst)|||VB (64:Nat) (cE src))):Int))) ([.ret _ _ _ c0]++Vt 13 tF++ [.ret _ _ _ c1,tF,tF,tT,tT,.ret _ _ _ c2,.ret _ _ _ c3]) (by kernel_rfl)).to (by rfl)
theorem ud:bC 5 92:=by
 intro w dst src base ai au cc d0 d1 s0 s1 b0 b1 hm
 have c0:= @aM 5 w dst src base ai au cc
 rw [hm] at c0
 have c1:= @bp 5
 have c2:= @aO dst d0 d1
 have c3:= @aO src s0 s1
 exact (j4 (d:= .int .i64 (W3.i64.wrap (↑(Wi (VB (64:Nat) (cE dst)|||VB (64:Nat) (cE src))):Int))) ([.ret _ _ _ c0]++Vt 13 tF++ [.ret _ _ _ c1,tF,tF,tT,tT,.ret _ _ _ c2,.ret _ _ _ c3]) (by kernel_rfl)).to (by rfl)
theorem uc:bC 6 92:=by
 intro w dst src base ai au cc d0 d1 s0 s1 b0 b1 hm
 have c0:= @aM 6 w dst src base ai au cc
 rw [hm] at c0
 have c1:= @bp 6
 have c2:= @aO dst d0 d1
 have c3:= @aO src s0 s1
 exact (j4 (d:= .int .i64 (W3.i64.wrap (↑(Wi (VB (64:Nat) (cE dst)|||VB (64:Nat) (cE src))):Int))) ([.ret _ _ _ c0]++Vt 13 tF++ [.ret _ _ _ c1,tF,tF,tT,tT,.ret _ _ _ c2,.ret _ _ _ c3]) (by kernel_rfl)).to (by rfl)
theorem ub:bC 7 92:=by
 intro w dst src base ai au cc d0 d1 s0 s1 b0 b1 hm
 have c0:= @aM 7 w dst src base ai au cc
 rw [hm] at c0
 have c1:= @bp 7
 have c2:= @aO dst d0 d1
 have c3:= @aO src s0 s1
 exact (j4 (d:= .int .i64 (W3.i64.wrap (↑(Wi (VB (64:Nat) (cE dst)|||VB (64:Nat) (cE src))):Int))) ([.ret _ _ _ c0]++Vt 13 tF++ [.ret _ _ _ c1,tF,tF,tT,tT,.ret _ _ _ c2,.ret _ _ _ c3]) (by kernel_rfl)).to (by rfl)
theorem ua:bC 8 92:=by
 intro w dst src base ai au cc d0 d1 s0 s1 b0 b1 hm
 have c0:= @aM 8 w dst src base ai au cc
 rw [hm] at c0
 have c1:= @bp 8
 have c2:= @aO dst d0 d1
 have c3:= @aO src s0 s1
 exact (j4 (d:= .int .i64 (W3.i64.wrap (↑(Wi (VB (64:Nat) (cE dst)|||VB (64:Nat) (cE src))):Int))) ([.ret _ _ _ c0]++Vt 13 tF++ [.ret _ _ _ c1,tF,tF,tT,tT,.ret _ _ _ c2,.ret _ _ _ c3]) (by kernel_rfl)).to (by rfl)
theorem tZ:bC 9 92:=by
 intro w dst src base ai au cc d0 d1 s0 s1 b0 b1 hm
 have c0:= @aM 9 w dst src base ai au cc
 rw [hm] at c0
 have c1:= @bp 9
 have c2:= @aO dst d0 d1
 exact (j4 (d:= .int .i64 (cE dst)) ([.ret _ _ _ c0]++Vt 13 tF++ [.ret _ _ _ c1,tT,tT,tF,tF,.ret _ _ _ c2]) (by kernel_rfl)).to (by rfl)
theorem sf:bC 10 92:=by
 intro w dst src base ai au cc d0 d1 s0 s1 b0 b1 hm
 have c0:= @aM 10 w dst src base ai au cc
 rw [hm] at c0
 have c1:= @bp 10
 have c2:= @aO dst d0 d1
 exact (j4 (d:= .int .i64 (cE dst)) ([.ret _ _ _ c0]++Vt 13 tF++ [.ret _ _ _ c1,tT,tT,tF,tF,.ret _ _ _ c2]) (by kernel_rfl)).to (by rfl)
theorem se:bC 11 92:=by
 intro w dst src base ai au cc d0 d1 s0 s1 b0 b1 hm
 have c0:= @aM 11 w dst src base ai au cc
 rw [hm] at c0
 have c1:= @bp 11
 have c2:= @aO dst d0 d1
 exact (j4 (d:= .int .i64 (cE dst)) ([.ret _ _ _ c0]++Vt 13 tF++ [.ret _ _ _ c1,tT,tT,tF,tF,.ret _ _ _ c2]) (by kernel_rfl)).to (by rfl)
theorem sd:bC 12 92:=by
 intro w dst src base ai au cc d0 d1 s0 s1 b0 b1 hm
 have c0:= @aM 12 w dst src base ai au cc
 rw [hm] at c0
 have c1:= @bp 12
 have c2:= @aO dst d0 d1
 exact (j4 (d:= .int .i64 (cE dst)) ([.ret _ _ _ c0]++Vt 13 tF++ [.ret _ _ _ c1,tT,tT,tF,tF,.ret _ _ _ c2]) (by kernel_rfl)).to (by rfl)
theorem sb:bC 13 92:=by
 intro w dst src base ai au cc d0 d1 s0 s1 b0 b1 hm
 have c0:= @aM 13 w dst src base ai au cc
 rw [hm] at c0
 have c1:= @bp 13
 have c2:= @aO dst d0 d1
 exact (j4 (d:= .int .i64 (cE dst)) ([.ret _ _ _ c0]++Vt 13 tF++ [.ret _ _ _ c1,tT,tT,tF,tF,.ret _ _ _ c2]) (by kernel_rfl)).to (by rfl)
theorem rZ:bC 14 92:=by
 intro w dst src base ai au cc d0 d1 s0 s1 b0 b1 hm
 have c0:= @aM 14 w dst src base ai au cc
 rw [hm] at c0
 have c1:= @bp 14
 have c2:= @aO dst d0 d1
 exact (j4 (d:= .int .i64 (cE dst)) ([.ret _ _ _ c0]++Vt 13 tF++ [.ret _ _ _ c1,tT,tT,tF,tF,.ret _ _ _ c2]) (by kernel_rfl)).to (by rfl)
theorem rY:bC 15 92:=by
 intro w dst src base ai au cc d0 d1 s0 s1 b0 b1 hm
 have c0:= @aM 15 w dst src base ai au cc
 rw [hm] at c0
 have c1:= @bp 15
 have c2:= @aO dst d0 d1
 exact (j4 (d:= .int .i64 (cE dst)) ([.ret _ _ _ c0]++Vt 13 tF++ [.ret _ _ _ c1,tT,tT,tF,tF,.ret _ _ _ c2]) (by kernel_rfl)).to (by rfl)
theorem rX:bC 16 92:=by
 intro w dst src base ai au cc d0 d1 s0 s1 b0 b1 hm
 have c0:= @aM 16 w dst src base ai au cc
 rw [hm] at c0
 have c1:= @bp 16
 have c2:= @aO dst d0 d1
 have c3:= @aO src s0 s1
 exact (j4 (d:= .int .i64 (W3.i64.wrap (↑(Wi (VB (64:Nat) (cE dst)|||VB (64:Nat) (cE src))):Int))) ([.ret _ _ _ c0]++Vt 13 tF++ [.ret _ _ _ c1,tF,tF,tT,tT,.ret _ _ _ c2,.ret _ _ _ c3]) (by kernel_rfl)).to (by rfl)
theorem rW:bC 17 92:=by
 intro w dst src base ai au cc d0 d1 s0 s1 b0 b1 hm
 have c0:= @aM 17 w dst src base ai au cc
 rw [hm] at c0
 have c1:= @bp 17
 have c2:= @aO dst d0 d1
 exact (j4 (d:= .int .i64 (cE dst)) ([.ret _ _ _ c0]++Vt 13 tF++ [.ret _ _ _ c1,tT,tT,tF,tF,.ret _ _ _ c2]) (by kernel_rfl)).to (by rfl)
theorem rV:bC 18 92:=by
 intro w dst src base ai au cc d0 d1 s0 s1 b0 b1 hm
 have c0:= @aM 18 w dst src base ai au cc
 rw [hm] at c0
 have c1:= @bp 18
 have c2:= @aO dst d0 d1
 exact (j4 (d:= .int .i64 (cE dst)) ([.ret _ _ _ c0]++Vt 13 tF++ [.ret _ _ _ c1,tT,tT,tF,tF,.ret _ _ _ c2]) (by kernel_rfl)).to (by rfl)
theorem rU:bC 19 92:=by
 intro w dst src base ai au cc d0 d1 s0 s1 b0 b1 hm
 have c0:= @aM 19 w dst src base ai au cc
 rw [hm] at c0
 have c1:= @bp 19
 have c2:= @aO dst d0 d1
 exact (j4 (d:= .int .i64 (cE dst)) ([.ret _ _ _ c0]++Vt 13 tF++ [.ret _ _ _ c1,tT,tT,tF,tF,.ret _ _ _ c2]) (by kernel_rfl)).to (by rfl)
theorem rT:bC 20 92:=by
 intro w dst src base ai au cc d0 d1 s0 s1 b0 b1 hm
 have c0:= @aM 20 w dst src base ai au cc
 rw [hm] at c0
 have c1:= @aO dst d0 d1
 have c2:= @aO 1 (by decide) (by decide)
 exact (j4 (d:= .int .i64 (W3.i64.wrap (↑(Wi (VB (64:Nat) (cE dst)|||VB (64:Nat) 2)):Int))) [.ret _ _ _ c0,tF,tF,tF,tF,tF,tT,tT,.ret _ _ _ c1,.ret _ _ _ c2] (by kernel_rfl)).to (by rfl)
theorem rS:bC 21 92:=by
 intro w dst src base ai au cc d0 d1 s0 s1 b0 b1 hm
 have c0:= @aM 21 w dst src base ai au cc
 rw [hm] at c0
 have c1:= @aO dst d0 d1
 have c2:= @aO 1 (by decide) (by decide)
 exact (j4 (d:= .int .i64 (W3.i64.wrap (↑(Wi (VB (64:Nat) (cE dst)|||VB (64:Nat) 2)):Int))) [.ret _ _ _ c0,tF,tF,tF,tF,tF,tF,tT,tT,.ret _ _ _ c1,.ret _ _ _ c2] (by kernel_rfl)).to (by rfl)
theorem rR:bC 22 92:=by
 intro w dst src base ai au cc d0 d1 s0 s1 b0 b1 hm
 have c0:= @aM 22 w dst src base ai au cc
 rw [hm] at c0
 have c1:= @aO dst d0 d1
 have c2:= @aO 1 (by decide) (by decide)
 exact (j4 (d:= .int .i64 (W3.i64.wrap (↑(Wi (VB (64:Nat) (cE dst)|||VB (64:Nat) 2)):Int))) [.ret _ _ _ c0,tF,tF,tF,tF,tF,tF,tF,tT,.ret _ _ _ c1,.ret _ _ _ c2] (by kernel_rfl)).to (by rfl)
theorem rQ:bC 23 92:=by
 intro w dst src base ai au cc d0 d1 s0 s1 b0 b1 hm
 have c0:= @aM 23 w dst src base ai au cc
 rw [hm] at c0
 have c1:= @bp 23
 have c2:= @aO dst d0 d1
 exact (j4 (d:= .int .i64 (cE dst)) ([.ret _ _ _ c0]++Vt 13 tF++ [.ret _ _ _ c1,tT,tT,tF,tF,.ret _ _ _ c2]) (by kernel_rfl)).to (by rfl)
theorem rP:bC 24 92:=by
 intro w dst src base ai au cc d0 d1 s0 s1 b0 b1 hm
 have c0:= @aM 24 w dst src base ai au cc
 rw [hm] at c0
 have c1:= @aO dst d0 d1
 have c2:= @aO 0 (by decide) (by decide)
 have c3:= @aO 2 (by decide) (by decide)
 exact (j4 (d:= .int .i64 (W3.i64.wrap (↑(Wi (VB (64:Nat) (W3.i64.wrap (↑(Wi (VB (64:Nat) (cE dst)|||VB (64:Nat) 1)):Int))|||VB (64:Nat) 4)):Int))) ([.ret _ _ _ c0]++Vt 8 tF++ [tT,.ret _ _ _ c1,.ret _ _ _ c2,.ret _ _ _ c3]) (by kernel_rfl)).to (by rfl)
theorem rO:bC 25 92:=by
 intro w dst src base ai au cc d0 d1 s0 s1 b0 b1 hm
 have c0:= @aM 25 w dst src base ai au cc
 rw [hm] at c0
 have c1:= @bp 25
 have c2:= @aO dst d0 d1
 have c3:= @aO src s0 s1
 exact (j4 (d:= .int .i64 (W3.i64.wrap (↑(Wi (VB (64:Nat) (cE dst)|||VB (64:Nat) (cE src))):Int))) ([.ret _ _ _ c0]++Vt 13 tF++ [.ret _ _ _ c1,tT,tT,tF,tT,.ret _ _ _ c2,.ret _ _ _ c3]) (by kernel_rfl)).to (by rfl)
theorem rN:bC 26 92:=by
 intro w dst src base ai au cc d0 d1 s0 s1 b0 b1 hm
 have c0:= @aM 26 w dst src base ai au cc
 rw [hm] at c0
 have c1:= @aO base b0 b1
 exact (j4 (d:= .int .i64 (cE base)) ([.ret _ _ _ c0]++Vt 9 tF++ [tT,.ret _ _ _ c1]) (by kernel_rfl)).to (by rfl)
theorem rM:bC 27 92:=by
 intro w dst src base ai au cc d0 d1 s0 s1 b0 b1 hm
 have c0:= @aM 27 w dst src base ai au cc
 rw [hm] at c0
 have c1:= @aO base b0 b1
 have c2:= @aO src s0 s1
 exact (j4 (d:= .int .i64 (W3.i64.wrap (↑(Wi (VB (64:Nat) (cE base)|||VB (64:Nat) (cE src))):Int))) ([.ret _ _ _ c0]++Vt 10 tF++ [tT,.ret _ _ _ c1,.ret _ _ _ c2]) (by kernel_rfl)).to (by rfl)
theorem rL:bC 28 92:=by
 intro w dst src base ai au cc d0 d1 s0 s1 b0 b1 hm
 have c0:= @aM 28 w dst src base ai au cc
 rw [hm] at c0
 exact (j4 (d:= .int .i64 0) [.ret _ _ _ c0,tF,tF,tF,tT,tT] (by kernel_rfl)).to (by rfl)
theorem rK:bC 29 92:=by
 intro w dst src base ai au cc d0 d1 s0 s1 b0 b1 hm
 have c0:= @aM 29 w dst src base ai au cc
 rw [hm] at c0
 exact (j4 (d:= .int .i64 0) [.ret _ _ _ c0,tF,tF,tF,tF,tT] (by kernel_rfl)).to (by rfl)
theorem rJ:bC 30 92:=by
 intro w dst src base ai au cc d0 d1 s0 s1 b0 b1 hm
 have c0:= @aM 30 w dst src base ai au cc
 rw [hm] at c0
 have c1:= @aO 4 (by decide) (by decide)
 have c2:= @aO 0 (by decide) (by decide)
 exact (j4 (d:= .int .i64 17) ([.ret _ _ _ c0]++Vt 11 tF++ [tT,.ret _ _ _ c1,.ret _ _ _ c2]) (by kernel_rfl)).to (by rfl)
theorem rI:bC 31 92:=by
 intro w dst src base ai au cc d0 d1 s0 s1 b0 b1 hm
 have c0:= @aM 31 w dst src base ai au cc
 rw [hm] at c0
 have c1:= @aO 0 (by decide) (by decide)
 have c2:= @aO 7 (by decide) (by decide)
 have c3:= @aO 6 (by decide) (by decide)
 have c4:= @aO 2 (by decide) (by decide)
 have c5:= @aO 10 (by decide) (by decide)
 have c6:= @aO 8 (by decide) (by decide)
 exact (j4 (d:= .int .i64 1477) ([.ret _ _ _ c0]++Vt 12 tF++ [tT,.ret _ _ _ c1,.ret _ _ _ c2,.ret _ _ _ c3,.ret _ _ _ c4,.ret _ _ _ c5,.ret _ _ _ c6]) (by kernel_rfl)).to (by rfl)
theorem rH:th 92:=by
 intro op w dst src base ai au cc ho hm
 have c0:= @aM op w dst src base ai au cc
 rw [hm] at c0
 exact (j4 (d:= .int .i64 0) [.ret _ _ _ c0,tT] (by kernel_rfl)).to (by simp [wk])
theorem rF:bB 0 93:=by
 intro w dst src base ai au cc d0 d1 s0 s1 b0 b1 hm
 have c0:= @aM 0 w dst src base ai au cc
 rw [hm] at c0
 have c1:= @aO dst d0 d1
 exact (j3 (d:= .int .i64 (cE dst)) ([.ret _ _ _ c0]++Vt 11 tF++ [.ret _ _ _ c1]) (by kernel_rfl)).to (by rfl)
theorem rE:bB 1 93:=by
 intro w dst src base ai au cc d0 d1 s0 s1 b0 b1 hm
 have c0:= @aM 1 w dst src base ai au cc
 rw [hm] at c0
 have c1:= @aO dst d0 d1
 exact (j3 (d:= .int .i64 (cE dst)) ([.ret _ _ _ c0]++Vt 11 tF++ [.ret _ _ _ c1]) (by kernel_rfl)).to (by rfl)
theorem rD:bB 2 93:=by
 intro w dst src base ai au cc d0 d1 s0 s1 b0 b1 hm
 have c0:= @aM 2 w dst src base ai au cc
 rw [hm] at c0
 have c1:= @aO dst d0 d1
 exact (j3 (d:= .int .i64 (cE dst)) ([.ret _ _ _ c0]++Vt 11 tF++ [.ret _ _ _ c1]) (by kernel_rfl)).to (by rfl)
theorem rC:bB 3 93:=by
 intro w dst src base ai au cc d0 d1 s0 s1 b0 b1 hm
 have c0:= @aM 3 w dst src base ai au cc
 rw [hm] at c0
 have c1:= @aO dst d0 d1
 exact (j3 (d:= .int .i64 (cE dst)) ([.ret _ _ _ c0]++Vt 11 tF++ [.ret _ _ _ c1]) (by kernel_rfl)).to (by rfl)
theorem rB:bB 4 93:=by
 intro w dst src base ai au cc d0 d1 s0 s1 b0 b1 hm
 have c0:= @aM 4 w dst src base ai au cc
 rw [hm] at c0
 have c1:= @aO dst d0 d1
 exact (j3 (d:= .int .i64 (cE dst)) ([.ret _ _ _ c0]++Vt 11 tF++ [.ret _ _ _ c1]) (by kernel_rfl)).to (by rfl)
theorem rA:bB 5 93:=by
 intro w dst src base ai au cc d0 d1 s0 s1 b0 b1 hm
 have c0:= @aM 5 w dst src base ai au cc
 rw [hm] at c0
 have c1:= @aO dst d0 d1
 exact (j3 (d:= .int .i64 (cE dst)) ([.ret _ _ _ c0]++Vt 11 tF++ [.ret _ _ _ c1]) (by kernel_rfl)).to (by rfl)
theorem rz:bB 6 93:=by
 intro w dst src base ai au cc d0 d1 s0 s1 b0 b1 hm
 have c0:= @aM 6 w dst src base ai au cc
 rw [hm] at c0
 have c1:= @aO dst d0 d1
 exact (j3 (d:= .int .i64 (cE dst)) ([.ret _ _ _ c0]++Vt 11 tF++ [.ret _ _ _ c1]) (by kernel_rfl)).to (by rfl)
theorem ru:bB 7 93:=by
 intro w dst src base ai au cc d0 d1 s0 s1 b0 b1 hm
 have c0:= @aM 7 w dst src base ai au cc
 rw [hm] at c0
 exact (j3 (d:= .int .i64 0) [.ret _ _ _ c0,tF,tT,tT] (by kernel_rfl)).to (by rfl)
theorem rq:bB 8 93:=by
 intro w dst src base ai au cc d0 d1 s0 s1 b0 b1 hm
 have c0:= @aM 8 w dst src base ai au cc
 rw [hm] at c0
 exact (j3 (d:= .int .i64 0) [.ret _ _ _ c0,tF,tF,tT,tT] (by kernel_rfl)).to (by rfl)
theorem rp:bB 9 93:=by
 intro w dst src base ai au cc d0 d1 s0 s1 b0 b1 hm
 have c0:= @aM 9 w dst src base ai au cc
 rw [hm] at c0
 have c1:= @aO dst d0 d1
 exact (j3 (d:= .int .i64 (cE dst)) ([.ret _ _ _ c0]++Vt 11 tF++ [.ret _ _ _ c1]) (by kernel_rfl)).to (by rfl)
theorem pH:bB 10 93:=by
 intro w dst src base ai au cc d0 d1 s0 s1 b0 b1 hm
 have c0:= @aM 10 w dst src base ai au cc
 rw [hm] at c0
 have c1:= @aO dst d0 d1
 exact (j3 (d:= .int .i64 (cE dst)) ([.ret _ _ _ c0]++Vt 11 tF++ [.ret _ _ _ c1]) (by kernel_rfl)).to (by rfl)
theorem pG:bB 11 93:=by
 intro w dst src base ai au cc d0 d1 s0 s1 b0 b1 hm
 have c0:= @aM 11 w dst src base ai au cc
 rw [hm] at c0
 have c1:= @aO dst d0 d1
 exact (j3 (d:= .int .i64 (cE dst)) ([.ret _ _ _ c0]++Vt 11 tF++ [.ret _ _ _ c1]) (by kernel_rfl)).to (by rfl)
theorem pF:bB 12 93:=by
 intro w dst src base ai au cc d0 d1 s0 s1 b0 b1 hm
 have c0:= @aM 12 w dst src base ai au cc
 rw [hm] at c0
 have c1:= @aO dst d0 d1
 exact (j3 (d:= .int .i64 (cE dst)) ([.ret _ _ _ c0]++Vt 11 tF++ [.ret _ _ _ c1]) (by kernel_rfl)).to (by rfl)
theorem pE:bB 13 93:=by
 intro w dst src base ai au cc d0 d1 s0 s1 b0 b1 hm
 have c0:= @aM 13 w dst src base ai au cc
 rw [hm] at c0
 have c1:= @aO dst d0 d1
 exact (j3 (d:= .int .i64 (cE dst)) ([.ret _ _ _ c0]++Vt 11 tF++ [.ret _ _ _ c1]) (by kernel_rfl)).to (by rfl)
theorem pD:bB 14 93:=by
 intro w dst src base ai au cc d0 d1 s0 s1 b0 b1 hm
 have c0:= @aM 14 w dst src base ai au cc
 rw [hm] at c0
 exact (j3 (d:= .int .i64 0) [.ret _ _ _ c0,tF,tF,tF,tT,tT] (by kernel_rfl)).to (by rfl)
theorem pC:bB 15 93:=by
 intro w dst src base ai au cc d0 d1 s0 s1 b0 b1 hm
 have c0:= @aM 15 w dst src base ai au cc
 rw [hm] at c0
 exact (j3 (d:= .int .i64 0) [.ret _ _ _ c0,tF,tF,tF,tF,tT,tT] (by kernel_rfl)).to (by rfl)
theorem pB:bB 16 93:=by
 intro w dst src base ai au cc d0 d1 s0 s1 b0 b1 hm
 have c0:= @aM 16 w dst src base ai au cc
 rw [hm] at c0
 have c1:= @aO dst d0 d1
 exact (j3 (d:= .int .i64 (cE dst)) ([.ret _ _ _ c0]++Vt 11 tF++ [.ret _ _ _ c1]) (by kernel_rfl)).to (by rfl)
theorem pA:bB 17 93:=by
 intro w dst src base ai au cc d0 d1 s0 s1 b0 b1 hm
 have c0:= @aM 17 w dst src base ai au cc
 rw [hm] at c0
 have c1:= @aO dst d0 d1
 exact (j3 (d:= .int .i64 (cE dst)) ([.ret _ _ _ c0]++Vt 11 tF++ [.ret _ _ _ c1]) (by kernel_rfl)).to (by rfl)
theorem pz:bB 18 93:=by
 intro w dst src base ai au cc d0 d1 s0 s1 b0 b1 hm
 have c0:= @aM 18 w dst src base ai au cc
 rw [hm] at c0
 have c1:= @aO dst d0 d1
 exact (j3 (d:= .int .i64 (cE dst)) ([.ret _ _ _ c0]++Vt 11 tF++ [.ret _ _ _ c1]) (by kernel_rfl)).to (by rfl)
theorem pw:bB 19 93:=by
 intro w dst src base ai au cc d0 d1 s0 s1 b0 b1 hm
 have c0:= @aM 19 w dst src base ai au cc
 rw [hm] at c0
 have c1:= @aO dst d0 d1
 exact (j3 (d:= .int .i64 (cE dst)) ([.ret _ _ _ c0]++Vt 11 tF++ [.ret _ _ _ c1]) (by kernel_rfl)).to (by rfl)
theorem pv:bB 20 93:=by
 intro w dst src base ai au cc d0 d1 s0 s1 b0 b1 hm
 have c0:= @aM 20 w dst src base ai au cc
 rw [hm] at c0
 have c1:= @aO dst d0 d1
 exact (j3 (d:= .int .i64 (cE dst)) ([.ret _ _ _ c0]++Vt 11 tF++ [.ret _ _ _ c1]) (by kernel_rfl)).to (by rfl)
theorem pt:bB 21 93:=by
 intro w dst src base ai au cc d0 d1 s0 s1 b0 b1 hm
 have c0:= @aM 21 w dst src base ai au cc
 rw [hm] at c0
 have c1:= @aO dst d0 d1
 exact (j3 (d:= .int .i64 (cE dst)) ([.ret _ _ _ c0]++Vt 11 tF++ [.ret _ _ _ c1]) (by kernel_rfl)).to (by rfl)
theorem pr:bB 22 93:=by
 intro w dst src base ai au cc d0 d1 s0 s1 b0 b1 hm
 have c0:= @aM 22 w dst src base ai au cc
 rw [hm] at c0
 have c1:= @aO dst d0 d1
 exact (j3 (d:= .int .i64 (cE dst)) ([.ret _ _ _ c0]++Vt 11 tF++ [.ret _ _ _ c1]) (by kernel_rfl)).to (by rfl)
theorem pq:bB 23 93:=by
 intro w dst src base ai au cc d0 d1 s0 s1 b0 b1 hm
 have c0:= @aM 23 w dst src base ai au cc
 rw [hm] at c0
 have c1:= @aO dst d0 d1
 exact (j3 (d:= .int .i64 (cE dst)) ([.ret _ _ _ c0]++Vt 11 tF++ [.ret _ _ _ c1]) (by kernel_rfl)).to (by rfl)
theorem po:bB 24 93:=by
 intro w dst src base ai au cc d0 d1 s0 s1 b0 b1 hm
 have c0:= @aM 24 w dst src base ai au cc
 rw [hm] at c0
 have c1:= @aO 0 (by decide) (by decide)
 have c2:= @aO 2 (by decide) (by decide)
 exact (j3 (d:= .int .i64 5) ([.ret _ _ _ c0]++Vt 8 tF++ [tT,.ret _ _ _ c1,.ret _ _ _ c2]) (by kernel_rfl)).to (by rfl)
theorem pn:bB 25 93:=by
 intro w dst src base ai au cc d0 d1 s0 s1 b0 b1 hm
 have c0:= @aM 25 w dst src base ai au cc
 rw [hm] at c0
 have c1:= @aO dst d0 d1
 exact (j3 (d:= .int .i64 (cE dst)) ([.ret _ _ _ c0]++Vt 11 tF++ [.ret _ _ _ c1]) (by kernel_rfl)).to (by rfl)
theorem pl:bB 26 93:=by
 intro w dst src base ai au cc d0 d1 s0 s1 b0 b1 hm
 have c0:= @aM 26 w dst src base ai au cc
 rw [hm] at c0
 have c1:= @aO dst d0 d1
 exact (j3 (d:= .int .i64 (cE dst)) ([.ret _ _ _ c0]++Vt 11 tF++ [.ret _ _ _ c1]) (by kernel_rfl)).to (by rfl)
theorem pk:bB 27 93:=by
 intro w dst src base ai au cc d0 d1 s0 s1 b0 b1 hm
 have c0:= @aM 27 w dst src base ai au cc
 rw [hm] at c0
 exact (j3 (d:= .int .i64 0) [.ret _ _ _ c0,tF,tF,tF,tF,tF,tT,tT] (by kernel_rfl)).to (by rfl)
theorem pj:bB 28 93:=by
 intro w dst src base ai au cc d0 d1 s0 s1 b0 b1 hm
 have c0:= @aM 28 w dst src base ai au cc
 rw [hm] at c0
 exact (j3 (d:= .int .i64 0) [.ret _ _ _ c0,tF,tF,tF,tF,tF,tF,tT,tT] (by kernel_rfl)).to (by rfl)
theorem ph:bB 29 93:=by
 intro w dst src base ai au cc d0 d1 s0 s1 b0 b1 hm
 have c0:= @aM 29 w dst src base ai au cc
 rw [hm] at c0
 exact (j3 (d:= .int .i64 0) [.ret _ _ _ c0,tF,tF,tF,tF,tF,tF,tF,tT] (by kernel_rfl)).to (by rfl)
theorem pg:bB 30 93:=by
 intro w dst src base ai au cc d0 d1 s0 s1 b0 b1 hm
 have c0:= @aM 30 w dst src base ai au cc
 rw [hm] at c0
 have c1:= @aO 4 (by decide) (by decide)
 exact (j3 (d:= .int .i64 16) ([.ret _ _ _ c0]++Vt 9 tF++ [tT,.ret _ _ _ c1]) (by kernel_rfl)).to (by rfl)
theorem pf:bB 31 93:=by
 intro w dst src base ai au cc d0 d1 s0 s1 b0 b1 hm
 have c0:= @aM 31 w dst src base ai au cc
 rw [hm] at c0
 have c1:= @aO 0 (by decide) (by decide)
 have c2:= @aO 1 (by decide) (by decide)
 have c3:= @aO 11 (by decide) (by decide)
 exact (j3 (d:= .int .i64 2051) ([.ret _ _ _ c0]++Vt 10 tF++ [tT,.ret _ _ _ c1,.ret _ _ _ c2,.ret _ _ _ c3]) (by kernel_rfl)).to (by rfl)
theorem pe:th 93:=by
 intro op w dst src base ai au cc ho hm
 have c0:= @aM op w dst src base ai au cc
 rw [hm] at c0
 exact (j3 (d:= .int .i64 0) [.ret _ _ _ c0,tT] (by kernel_rfl)).to (by simp [wk])
theorem m8 {op w dst src base ai au cc:Int} (h:av op w dst src base ai au cc=true):bq op≠0:=by
 have hs:=(fe h).2
 intro e
 rw [e] at hs
 simp [ax] at hs
theorem dA (op w dst src base ai au cc:Int) (ho:op≤127):aJ Tryz.prog 115 [xD op w dst src base ai au cc] (.int .i64 (dS op w dst src base ai au cc)):=by
 unfold dS
 cases h:av op w dst src base ai au cc
 ·simp only [Wj,if_false]
  exact qD op w dst src base ai au cc ho h
 ·simp only [if_true]
  obtain ⟨⟨d0,d1,s0,s1,b0,b1,p0,p1,i0,i1⟩,hs⟩:=fe h
  have SF:=m8 h
  clear hs
  rcases jH SF with rfl|rfl|rfl|rfl|rfl|rfl|rfl|rfl|rfl|rfl|rfl|rfl|rfl|rfl|rfl|rfl|rfl|rfl|rfl|rfl|rfl|rfl|rfl|rfl|rfl|rfl|rfl|rfl|rfl|rfl|rfl|rfl
  ·exact tH _ _ _ _ _ _ _ d0 d1 s0 s1 b0 b1 h
  ·exact tG _ _ _ _ _ _ _ d0 d1 s0 s1 b0 b1 h
  ·exact tE _ _ _ _ _ _ _ d0 d1 s0 s1 b0 b1 h
  ·exact tD _ _ _ _ _ _ _ d0 d1 s0 s1 b0 b1 h
  ·exact tB _ _ _ _ _ _ _ d0 d1 s0 s1 b0 b1 h
  ·exact tA _ _ _ _ _ _ _ d0 d1 s0 s1 b0 b1 h
  ·exact tx _ _ _ _ _ _ _ d0 d1 s0 s1 b0 b1 h
  ·exact tw _ _ _ _ _ _ _ d0 d1 s0 s1 b0 b1 h
  ·exact tu _ _ _ _ _ _ _ d0 d1 s0 s1 b0 b1 h
  ·exact tq _ _ _ _ _ _ _ d0 d1 s0 s1 b0 b1 h
  ·exact qZ _ _ _ _ _ _ _ d0 d1 s0 s1 b0 b1 h
  ·exact qY _ _ _ _ _ _ _ d0 d1 s0 s1 b0 b1 h
  ·exact qX _ _ _ _ _ _ _ d0 d1 s0 s1 b0 b1 h
  ·exact qW _ _ _ _ _ _ _ d0 d1 s0 s1 b0 b1 h
  ·exact qV _ _ _ _ _ _ _ d0 d1 s0 s1 b0 b1 h
  ·exact qU _ _ _ _ _ _ _ d0 d1 s0 s1 b0 b1 h
  ·exact qT _ _ _ _ _ _ _ d0 d1 s0 s1 b0 b1 h
  ·exact qS _ _ _ _ _ _ _ d0 d1 s0 s1 b0 b1 h
  ·exact qR _ _ _ _ _ _ _ d0 d1 s0 s1 b0 b1 h
  ·exact qQ _ _ _ _ _ _ _ d0 d1 s0 s1 b0 b1 h
  ·exact qP _ _ _ _ _ _ _ d0 d1 s0 s1 b0 b1 h
  ·exact qO _ _ _ _ _ _ _ d0 d1 s0 s1 b0 b1 h
  ·exact qN _ _ _ _ _ _ _ d0 d1 s0 s1 b0 b1 h
  ·exact qM _ _ _ _ _ _ _ d0 d1 s0 s1 b0 b1 h
  ·exact qL _ _ _ _ _ _ _ d0 d1 s0 s1 b0 b1 h
  ·exact qK _ _ _ _ _ _ _ d0 d1 s0 s1 b0 b1 h
  ·exact qJ _ _ _ _ _ _ _ d0 d1 s0 s1 b0 b1 h
  ·exact qI _ _ _ _ _ _ _ d0 d1 s0 s1 b0 b1 h
  ·exact qH _ _ _ _ _ _ _ d0 d1 s0 s1 b0 b1 h
  ·exact qG _ _ _ _ _ _ _ d0 d1 s0 s1 b0 b1 h
  ·exact qF _ _ _ _ _ _ _ d0 d1 s0 s1 b0 b1 h
  ·exact qE _ _ _ _ _ _ _ d0 d1 s0 s1 b0 b1 h
theorem dI (op w dst src base ai au cc:Int) (ho:op≤127):aJ Tryz.prog 121 [xD op w dst src base ai au cc] (.int .i64 (eI op w dst src base ai au cc)):=by
 unfold eI
 cases h:av op w dst src base ai au cc
 ·simp only [Wj,if_false]
  exact vq op w dst src base ai au cc ho h
 ·simp only [if_true]
  obtain ⟨⟨d0,d1,s0,s1,b0,b1,p0,p1,i0,i1⟩,hs⟩:=fe h
  have SF:=m8 h
  clear hs
  rcases jH SF with rfl|rfl|rfl|rfl|rfl|rfl|rfl|rfl|rfl|rfl|rfl|rfl|rfl|rfl|rfl|rfl|rfl|rfl|rfl|rfl|rfl|rfl|rfl|rfl|rfl|rfl|rfl|rfl|rfl|rfl|rfl|rfl
  ·exact yb _ _ _ _ _ _ _ d0 d1 s0 s1 b0 b1 h
  ·exact ya _ _ _ _ _ _ _ d0 d1 s0 s1 b0 b1 h
  ·exact x9 _ _ _ _ _ _ _ d0 d1 s0 s1 b0 b1 h
  ·exact x8 _ _ _ _ _ _ _ d0 d1 s0 s1 b0 b1 h
  ·exact x7 _ _ _ _ _ _ _ d0 d1 s0 s1 b0 b1 h
  ·exact x6 _ _ _ _ _ _ _ d0 d1 s0 s1 b0 b1 h
  ·exact xZ _ _ _ _ _ _ _ d0 d1 s0 s1 b0 b1 h
  ·exact xY _ _ _ _ _ _ _ d0 d1 s0 s1 b0 b1 h
  ·exact xX _ _ _ _ _ _ _ d0 d1 s0 s1 b0 b1 h
  ·exact xW _ _ _ _ _ _ _ d0 d1 s0 s1 b0 b1 h
  ·exact vN _ _ _ _ _ _ _ d0 d1 s0 s1 b0 b1 h
  ·exact vM _ _ _ _ _ _ _ d0 d1 s0 s1 b0 b1 h
  ·exact vL _ _ _ _ _ _ _ d0 d1 s0 s1 b0 b1 h
  ·exact vK _ _ _ _ _ _ _ d0 d1 s0 s1 b0 b1 h
  ·exact vJ _ _ _ _ _ _ _ d0 d1 s0 s1 b0 b1 h
  ·exact vI _ _ _ _ _ _ _ d0 d1 s0 s1 b0 b1 h
  ·exact vH _ _ _ _ _ _ _ d0 d1 s0 s1 b0 b1 h
  ·exact vG _ _ _ _ _ _ _ d0 d1 s0 s1 b0 b1 h
  ·exact vF _ _ _ _ _ _ _ d0 d1 s0 s1 b0 b1 h
  ·exact vE _ _ _ _ _ _ _ d0 d1 s0 s1 b0 b1 h
  ·exact vD _ _ _ _ _ _ _ d0 d1 s0 s1 b0 b1 h
  ·exact vC _ _ _ _ _ _ _ d0 d1 s0 s1 b0 b1 h
  ·exact vB _ _ _ _ _ _ _ d0 d1 s0 s1 b0 b1 h
  ·exact vA _ _ _ _ _ _ _ d0 d1 s0 s1 b0 b1 h
  ·exact vz _ _ _ _ _ _ _ d0 d1 s0 s1 b0 b1 h
  ·exact vy _ _ _ _ _ _ _ d0 d1 s0 s1 b0 b1 h
  ·exact vx _ _ _ _ _ _ _ d0 d1 s0 s1 b0 b1 h
  ·exact vw _ _ _ _ _ _ _ d0 d1 s0 s1 b0 b1 h
  ·exact vv _ _ _ _ _ _ _ d0 d1 s0 s1 b0 b1 h
  ·exact vu _ _ _ _ _ _ _ d0 d1 s0 s1 b0 b1 h
  ·exact vt _ _ _ _ _ _ _ d0 d1 s0 s1 b0 b1 h
  ·exact vr _ _ _ _ _ _ _ d0 d1 s0 s1 b0 b1 h
theorem ke (op w dst src base ai au cc:Int) (ho:op≤127):aJ Tryz.prog 92 [xD op w dst src base ai au cc] (.int .i64 (eI op w dst src base ai au cc)):=by
 unfold eI
 cases h:av op w dst src base ai au cc
 ·simp only [Wj,if_false]
  exact rH op w dst src base ai au cc ho h
 ·simp only [if_true]
  obtain ⟨⟨d0,d1,s0,s1,b0,b1,p0,p1,i0,i1⟩,hs⟩:=fe h
  have SF:=m8 h
  clear hs
  rcases jH SF with rfl|rfl|rfl|rfl|rfl|rfl|rfl|rfl|rfl|rfl|rfl|rfl|rfl|rfl|rfl|rfl|rfl|rfl|rfl|rfl|rfl|rfl|rfl|rfl|rfl|rfl|rfl|rfl|rfl|rfl|rfl|rfl
  ·exact ui _ _ _ _ _ _ _ d0 d1 s0 s1 b0 b1 h
  ·exact uh _ _ _ _ _ _ _ d0 d1 s0 s1 b0 b1 h
  ·exact ug _ _ _ _ _ _ _ d0 d1 s0 s1 b0 b1 h
  ·exact uf _ _ _ _ _ _ _ d0 d1 s0 s1 b0 b1 h
  ·exact ue _ _ _ _ _ _ _ d0 d1 s0 s1 b0 b1 h
  ·exact ud _ _ _ _ _ _ _ d0 d1 s0 s1 b0 b1 h
  ·exact uc _ _ _ _ _ _ _ d0 d1 s0 s1 b0 b1 h
  ·exact ub _ _ _ _ _ _ _ d0 d1 s0 s1 b0 b1 h
  ·exact ua _ _ _ _ _ _ _ d0 d1 s0 s1 b0 b1 h
  ·exact tZ _ _ _ _ _ _ _ d0 d1 s0 s1 b0 b1 h
  ·exact sf _ _ _ _ _ _ _ d0 d1 s0 s1 b0 b1 h
  ·exact se _ _ _ _ _ _ _ d0 d1 s0 s1 b0 b1 h
  ·exact sd _ _ _ _ _ _ _ d0 d1 s0 s1 b0 b1 h
  ·exact sb _ _ _ _ _ _ _ d0 d1 s0 s1 b0 b1 h
  ·exact rZ _ _ _ _ _ _ _ d0 d1 s0 s1 b0 b1 h
  ·exact rY _ _ _ _ _ _ _ d0 d1 s0 s1 b0 b1 h
  ·exact rX _ _ _ _ _ _ _ d0 d1 s0 s1 b0 b1 h
  ·exact rW _ _ _ _ _ _ _ d0 d1 s0 s1 b0 b1 h
  ·exact rV _ _ _ _ _ _ _ d0 d1 s0 s1 b0 b1 h
  ·exact rU _ _ _ _ _ _ _ d0 d1 s0 s1 b0 b1 h
  ·exact rT _ _ _ _ _ _ _ d0 d1 s0 s1 b0 b1 h
  ·exact rS _ _ _ _ _ _ _ d0 d1 s0 s1 b0 b1 h
  ·exact rR _ _ _ _ _ _ _ d0 d1 s0 s1 b0 b1 h
  ·exact rQ _ _ _ _ _ _ _ d0 d1 s0 s1 b0 b1 h
  ·exact rP _ _ _ _ _ _ _ d0 d1 s0 s1 b0 b1 h
  ·exact rO _ _ _ _ _ _ _ d0 d1 s0 s1 b0 b1 h
  ·exact rN _ _ _ _ _ _ _ d0 d1 s0 s1 b0 b1 h
  ·exact rM _ _ _ _ _ _ _ d0 d1 s0 s1 b0 b1 h
  ·exact rL _ _ _ _ _ _ _ d0 d1 s0 s1 b0 b1 h
  ·exact rK _ _ _ _ _ _ _ d0 d1 s0 s1 b0 b1 h
  ·exact rJ _ _ _ _ _ _ _ d0 d1 s0 s1 b0 b1 h
  ·exact rI _ _ _ _ _ _ _ d0 d1 s0 s1 b0 b1 h
theorem jv (op w dst src base ai au cc:Int) (ho:op≤127):aJ Tryz.prog 93 [xD op w dst src base ai au cc] (.int .i64 (dS op w dst src base ai au cc)):=by
 unfold dS
 cases h:av op w dst src base ai au cc
 ·simp only [Wj,if_false]
  exact pe op w dst src base ai au cc ho h
 ·simp only [if_true]
  obtain ⟨⟨d0,d1,s0,s1,b0,b1,p0,p1,i0,i1⟩,hs⟩:=fe h
  have SF:=m8 h
  clear hs
  rcases jH SF with rfl|rfl|rfl|rfl|rfl|rfl|rfl|rfl|rfl|rfl|rfl|rfl|rfl|rfl|rfl|rfl|rfl|rfl|rfl|rfl|rfl|rfl|rfl|rfl|rfl|rfl|rfl|rfl|rfl|rfl|rfl|rfl
  ·exact rF _ _ _ _ _ _ _ d0 d1 s0 s1 b0 b1 h
  ·exact rE _ _ _ _ _ _ _ d0 d1 s0 s1 b0 b1 h
  ·exact rD _ _ _ _ _ _ _ d0 d1 s0 s1 b0 b1 h
  ·exact rC _ _ _ _ _ _ _ d0 d1 s0 s1 b0 b1 h
  ·exact rB _ _ _ _ _ _ _ d0 d1 s0 s1 b0 b1 h
  ·exact rA _ _ _ _ _ _ _ d0 d1 s0 s1 b0 b1 h
  ·exact rz _ _ _ _ _ _ _ d0 d1 s0 s1 b0 b1 h
  ·exact ru _ _ _ _ _ _ _ d0 d1 s0 s1 b0 b1 h
  ·exact rq _ _ _ _ _ _ _ d0 d1 s0 s1 b0 b1 h
  ·exact rp _ _ _ _ _ _ _ d0 d1 s0 s1 b0 b1 h
  ·exact pH _ _ _ _ _ _ _ d0 d1 s0 s1 b0 b1 h
  ·exact pG _ _ _ _ _ _ _ d0 d1 s0 s1 b0 b1 h
  ·exact pF _ _ _ _ _ _ _ d0 d1 s0 s1 b0 b1 h
  ·exact pE _ _ _ _ _ _ _ d0 d1 s0 s1 b0 b1 h
  ·exact pD _ _ _ _ _ _ _ d0 d1 s0 s1 b0 b1 h
  ·exact pC _ _ _ _ _ _ _ d0 d1 s0 s1 b0 b1 h
  ·exact pB _ _ _ _ _ _ _ d0 d1 s0 s1 b0 b1 h
  ·exact pA _ _ _ _ _ _ _ d0 d1 s0 s1 b0 b1 h
  ·exact pz _ _ _ _ _ _ _ d0 d1 s0 s1 b0 b1 h
  ·exact pw _ _ _ _ _ _ _ d0 d1 s0 s1 b0 b1 h
  ·exact pv _ _ _ _ _ _ _ d0 d1 s0 s1 b0 b1 h
  ·exact pt _ _ _ _ _ _ _ d0 d1 s0 s1 b0 b1 h
  ·exact pr _ _ _ _ _ _ _ d0 d1 s0 s1 b0 b1 h
  ·exact pq _ _ _ _ _ _ _ d0 d1 s0 s1 b0 b1 h
  ·exact po _ _ _ _ _ _ _ d0 d1 s0 s1 b0 b1 h
  ·exact pn _ _ _ _ _ _ _ d0 d1 s0 s1 b0 b1 h
  ·exact pl _ _ _ _ _ _ _ d0 d1 s0 s1 b0 b1 h
  ·exact pk _ _ _ _ _ _ _ d0 d1 s0 s1 b0 b1 h
  ·exact pj _ _ _ _ _ _ _ d0 d1 s0 s1 b0 b1 h
  ·exact ph _ _ _ _ _ _ _ d0 d1 s0 s1 b0 b1 h
  ·exact pg _ _ _ _ _ _ _ d0 d1 s0 s1 b0 b1 h
  ·exact pf _ _ _ _ _ _ _ d0 d1 s0 s1 b0 b1 h
def ME:List D:= [.fn (.func 129) [] [],.fn (.func 126) [] [],.fn (.func 126) [] [],.fn (.func 132) [] [],.fn (.func 133) [] [.ptr false 2 0],.fn (.func 128) [] [],.fn (.func 134) [] []]
theorem nq:aJ Tryz.prog 122 ([]) (.int .i64 2055):=by
 exact (LJ (d:= .int .i64 2055) [.inl,.go 64,tT,tT,.get ([.int .i8 0,.int .i8 1,.int .i8 2,.int .i8 11]) 0 (.int .i8 0) rfl,tT,tT,tT,.get ([.int .i8 0,.int .i8 1,.int .i8 2,.int .i8 11]) 1 (.int .i8 1) rfl,tT,tT,tT,.get ([.int .i8 0,.int .i8 1,.int .i8 2,.int .i8 11]) 2 (.int .i8 2) rfl,tT,tT,tT,.get ([.int .i8 0,.int .i8 1,.int .i8 2,.int .i8 11]) 3 (.int .i8 11) rfl,tT,tF] (by kernel_rfl)).to (by rfl)
theorem jP (n:Int) (hn:n≤127):aJ Tryz.prog 118 ([.int .i8 n]) (.bool (cV n)):=by
 rcases cm (decide (n<0)) with h0|h0
 ·exact (J0 (d:= .bool false) (Vt 5 (tC (eT (aK 0 h0)))++ [tC (aK 0 h0)]) (by kernel_rfl)).to (by exact cr (Fq h0))
 have c1:= @nq
 exact (J0 (d:= .bool (W3.i64.wrap (↑(Wi (VB (64:Nat) (Int.fdiv 2055 (2^min (Int.toNat n) (64:Nat)))&&&VB (64:Nat) 1)):Int)==1)) [tC (eT (aK 0 h0)),.ret _ _ _ c1,tC (eT (aK 0 h0)),tC (eT (aK 0 h0)),tC (v:=true) (aK 0 h0),tC (eT (aK 0 h0)),tC (eT (aK 0 h0)),tC (aK 0 h0)] (by kernel_rfl)).to (by exact cr (xf h0 hn))
def o7 (QC:Int):Prop:= ∀(op w dst src base ai au cc aF aw num to:Int) (ho:op≤127) (hc:cc≤127) (hp:aw≤127) (g0: -128≤aF) (g1:aF≤127),aJ Tryz.prog 61 ([e6 QC op w dst src base ai au cc aF aw num to]) (.bool (hH QC op w dst src base ai au cc aF aw num to))
theorem BP:o7 0:=by
 intro op w dst src base ai au cc aF aw num to ho hc hp g0 g1
 let E1:EL:=([.inl,.inl]++Vt 9 tT++ [.get ([D.fn (VE 120) [] [],D.fn (VE 117) [] [],D.fn (VE 117) [] [],D.fn (VE 123) [] [],D.fn (VE 124) [] [.ptr false 2 0],D.fn (VE 119) [] [],D.fn (VE 126) [] []]) 0 (D.fn (VE 120) [] []) rfl,tT,.inl])
 rcases cm (av op w dst src base ai au cc) with k0|k0
 ·rcases cm (decide (op<28)) with k1|k1
  ·rcases cm (pM op w dst src base ai au cc) with k2|k2
   ·have c3:= @dI op w dst src base ai au cc ho
    have c4:= @dA op w dst src base ai au cc ho
    have c5:= @aU op w dst src base ai au cc ho
    have c6:= @nq
    exact (jm (d:= .bool (aa [.int .i8 0,.int .i8 0,.int .i8 0,.int .i8 0,.int .i8 0,.int .i8 0,.int .i64 0,.int .i64 0,.int .i8 0,.int .i8 aF,.int .i8 aw,.int .i64 num,.int .i64 to] [.int .i8 0,.int .i8 0,.int .i8 0,.int .i8 0,.int .i8 0,.int .i8 0,.int .i64 0,.int .i64 0,.int .i8 0,.int .i8 0,.int .i8 0,.int .i64 0,.int .i64 0])) (E1++ [.ret _ _ _ c3,.ret _ _ _ c4,.ret _ _ _ c5]++Vt 6 (tC (eT k0))++ [tC k0,tC (eT k1),tC (eT k1),.ret _ _ _ c6,tC (eT k1),tC (eT k1),tC k1,tT]++Vt 5 (tC (eT (bS 0 true (eq_of_beq (@G4 op w dst src base ai au cc k2)))))++ [.flat _ _ cf,tC (bS 0 true (eq_of_beq (@G4 op w dst src base ai au cc k2)))]) (by kernel_rfl)).to (by clear E1;simp only [wk,D.bool.injEq,aL,iO,bR,k0,k1,k2,VR,VK,VM,VL];rw [Vw];simp only [hQ,aL] at*;done)
   have c7:= @dI op w dst src base ai au cc ho
   have c8:= @dA op w dst src base ai au cc ho
   have c9:= @aU op w dst src base ai au cc ho
   have Qe:= @nq
   exact (jm (d:= .bool false) (E1++ [.ret _ _ _ c7,.ret _ _ _ c8,.ret _ _ _ c9]++Vt 6 (tC (eT k0))++ [tC k0,tC (eT k1),tC (eT k1),.ret _ _ _ Qe,tC (eT k1),tC (eT k1),tC k1,tT]++Vt 5 (tC (eT (@G5 op w dst src base ai au cc k2)))++ [tC (@G5 op w dst src base ai au cc k2)]) (by kernel_rfl)).to (by simp only [wk,D.bool.injEq,aL,iO,bR,k0,k1,k2,VR,VK,VM,VL];done)
  rcases cm (pM op w dst src base ai au cc) with S5|S5
  ·have Qp:= @dI op w dst src base ai au cc ho
   have Qg:= @dA op w dst src base ai au cc ho
   have QI:= @aU op w dst src base ai au cc ho
   exact (jm (d:= .bool false) (E1++ [.ret _ _ _ Qp,.ret _ _ _ Qg,.ret _ _ _ QI]++Vt 6 (tC (eT k0))++ [tC k0]++Vt 4 (tC (eT k1))++ [tC k1,tT,tF,tF,tF,tF,tF,tF]) (by kernel_rfl)).to (by simp only [wk,D.bool.injEq,aL,iO,bR,k0,k1,S5,VR,VK,VM,VL];done)
  have c15:= @dI op w dst src base ai au cc ho
  have PQ:= @dA op w dst src base ai au cc ho
  have TL:= @aU op w dst src base ai au cc ho
  exact (jm (d:= .bool false) (E1++ [.ret _ _ _ c15,.ret _ _ _ PQ,.ret _ _ _ TL]++Vt 6 (tC (eT k0))++ [tC k0]++Vt 4 (tC (eT k1))++ [tC k1,tT,tF,tF,tF,tF,tF,tF]) (by kernel_rfl)).to (by simp only [wk,D.bool.injEq,aL,iO,bR,k0,k1,S5,VR,VK,VM,VL];done)
 rcases cm (decide (op<28)) with k18|k18
 ·rcases cm (pM op w dst src base ai au cc) with k19|k19
  ·have c20:= @dI op w dst src base ai au cc ho
   have T2:= @dA op w dst src base ai au cc ho
   have c22:= @aU op w dst src base ai au cc ho
   exact (jm (d:= .bool false) (E1++ [.ret _ _ _ c20,.ret _ _ _ T2,.ret _ _ _ c22]++Vt 6 (tC (eT k0))++ [tC k0,tF,tF,tF,tF,tF,tT,tF,tF,tF,tF,tF,tF]) (by kernel_rfl)).to (by simp only [wk,D.bool.injEq,aL,iO,bR,k0,k18,k19,VR,VK,VM,VL];done)
  have Re:= @dI op w dst src base ai au cc ho
  have RE:= @dA op w dst src base ai au cc ho
  have SK:= @aU op w dst src base ai au cc ho
  exact (jm (d:= .bool false) (E1++ [.ret _ _ _ Re,.ret _ _ _ RE,.ret _ _ _ SK]++Vt 6 (tC (eT k0))++ [tC k0,tF,tF,tF,tF,tF,tT,tF,tF,tF,tF,tF,tF]) (by kernel_rfl)).to (by simp only [wk,D.bool.injEq,aL,iO,bR,k0,k18,k19,VR,VK,VM,VL];done)
 rcases cm (pM op w dst src base ai au cc) with k26|k26
 ·have RC:= @dI op w dst src base ai au cc ho
  have c28:= @dA op w dst src base ai au cc ho
  have TX:= @aU op w dst src base ai au cc ho
  exact (jm (d:= .bool false) (E1++ [.ret _ _ _ RC,.ret _ _ _ c28,.ret _ _ _ TX]++Vt 6 (tC (eT k0))++ [tC k0,tF,tF,tF,tF,tF,tT,tF,tF,tF,tF,tF,tF]) (by kernel_rfl)).to (by simp only [wk,D.bool.injEq,aL,iO,bR,k0,k18,k26,VR,VK,VM,VL];done)
 have TS:= @dI op w dst src base ai au cc ho
 have c31:= @dA op w dst src base ai au cc ho
 have c32:= @aU op w dst src base ai au cc ho
 exact (jm (d:= .bool false) (E1++ [.ret _ _ _ TS,.ret _ _ _ c31,.ret _ _ _ c32]++Vt 6 (tC (eT k0))++ [tC k0,tF,tF,tF,tF,tF,tT,tF,tF,tF,tF,tF,tF]) (by kernel_rfl)).to (by simp only [wk,D.bool.injEq,aL,iO,bR,k0,k18,k26,VR,VK,VM,VL];done)
theorem BO:o7 1:=by
 intro op w dst src base ai au cc aF aw num to ho hc hp g0 g1
 let E1:EL:=([.inl,.inl]++Vt 9 tT++ [.get ([D.fn (VE 120) [] [],D.fn (VE 117) [] [],D.fn (VE 117) [] [],D.fn (VE 123) [] [],D.fn (VE 124) [] [.ptr false 2 0],D.fn (VE 119) [] [],D.fn (VE 126) [] []]) 1 (D.fn (VE 117) [] []) rfl,tT,.inl,.inl])
 rcases cm (cV aw) with k0|k0
 ·rcases cm (decide (W3.wrap W3.i64 aF<0)) with h1|h1
  ·exact (jm (d:= .bool false) (E1++Vt 3 (tC (eT (aK 0 h1)))++ [tC (aK 0 h1),tF,tF,tF,tF,tF,tF,tT,tF,tF,tF,tF,tF,tF]) (by kernel_rfl)).to (by clear E1;simp only [wk,D.bool.injEq,aL,fg,bR,k0,h1,VR,VK,VM,VL];rw [Vw];simp only [hQ,aL] at*;omega)
  rcases cm (decide (W3.wrap W3.i64 aF<11)) with h2|h2
  ·have c3:= @jP aw hp
   exact (jm (d:= .bool (aa [.int .i8 1,.int .i8 op,.int .i8 w,.int .i8 dst,.int .i8 src,.int .i8 base,.int .i64 ai,.int .i64 au,.int .i8 cc,.int .i8 0,.int .i8 0,.int .i64 num,.int .i64 to] [.int .i8 1,.int .i8 0,.int .i8 0,.int .i8 0,.int .i8 0,.int .i8 0,.int .i64 0,.int .i64 0,.int .i8 0,.int .i8 0,.int .i8 0,.int .i64 0,.int .i64 0])) (E1++Vt 3 (tC (eT (aK 0 h1)))++ [tC (aK 0 h1)]++Vt 5 (tC (eT (cQ 10 h2)))++ [.ret _ _ _ c3,tC (cQ 10 h2),tT]++Vt 5 (tC (eT k0))++ [.flat _ _ cf,tC k0]) (by kernel_rfl)).to (by clear E1;simp only [wk,D.bool.injEq,aL,fg,bR,k0,h1,h2,VR,VK,VM,VL];rw [Vw];simp only [hQ,aL] at*;omega)
  exact (jm (d:= .bool false) (E1++Vt 3 (tC (eT (aK 0 h1)))++ [tC (aK 0 h1)]++Vt 5 (tC (eT (cQ 10 h2)))++ [tC (cQ 10 h2),tT,tF,tF,tF,tF,tF,tF]) (by kernel_rfl)).to (by clear E1;simp only [wk,D.bool.injEq,aL,fg,bR,k0,h1,h2,VR,VK,VM,VL];rw [Vw];simp only [hQ,aL] at*;omega)
 rcases cm (decide (W3.wrap W3.i64 aF<0)) with h4|h4
 ·exact (jm (d:= .bool false) (E1++Vt 3 (tC (eT (aK 0 h4)))++ [tC (aK 0 h4),tF,tF,tF,tF,tF,tF,tT,tF,tF,tF,tF,tF,tF]) (by kernel_rfl)).to (by simp only [wk,D.bool.injEq,aL,fg,bR,k0,h4,VR,VK,VM,VL];done)
 rcases cm (decide (W3.wrap W3.i64 aF<11)) with h5|h5
 ·have c6:= @jP aw hp
  exact (jm (d:= .bool false) (E1++Vt 3 (tC (eT (aK 0 h4)))++ [tC (aK 0 h4)]++Vt 5 (tC (eT (cQ 10 h5)))++ [.ret _ _ _ c6,tC (cQ 10 h5),tT]++Vt 5 (tC (eT k0))++ [tC k0]) (by kernel_rfl)).to (by simp only [wk,D.bool.injEq,aL,fg,bR,k0,h4,h5,VR,VK,VM,VL];done)
 exact (jm (d:= .bool false) (E1++Vt 3 (tC (eT (aK 0 h4)))++ [tC (aK 0 h4)]++Vt 5 (tC (eT (cQ 10 h5)))++ [tC (cQ 10 h5),tT,tF,tF,tF,tF,tF,tF]) (by kernel_rfl)).to (by simp only [wk,D.bool.injEq,aL,fg,bR,k0,h4,h5,VR,VK,VM,VL];done)
theorem BN:o7 2:=by
 intro op w dst src base ai au cc aF aw num to ho hc hp g0 g1
 let E1:EL:=([.inl,.inl]++Vt 9 tT++ [.get ([D.fn (VE 120) [] [],D.fn (VE 117) [] [],D.fn (VE 117) [] [],D.fn (VE 123) [] [],D.fn (VE 124) [] [.ptr false 2 0],D.fn (VE 119) [] [],D.fn (VE 126) [] []]) 2 (D.fn (VE 117) [] []) rfl,tT,.inl,.inl])
 rcases cm (cV aw) with k0|k0
 ·rcases cm (decide (W3.wrap W3.i64 aF<0)) with h1|h1
  ·exact (jm (d:= .bool false) (E1++Vt 3 (tC (eT (aK 0 h1)))++ [tC (aK 0 h1),tF,tF,tF,tF,tF,tF,tT,tF,tF,tF,tF,tF,tF]) (by kernel_rfl)).to (by clear E1;simp only [wk,D.bool.injEq,aL,ff,bR,k0,h1,VR,VK,VM,VL];rw [Vw];simp only [hQ,aL] at*;omega)
  rcases cm (decide (W3.wrap W3.i64 aF<11)) with h2|h2
  ·have c3:= @jP aw hp
   exact (jm (d:= .bool (aa [.int .i8 2,.int .i8 op,.int .i8 w,.int .i8 dst,.int .i8 src,.int .i8 base,.int .i64 ai,.int .i64 au,.int .i8 cc,.int .i8 0,.int .i8 0,.int .i64 num,.int .i64 to] [.int .i8 2,.int .i8 0,.int .i8 0,.int .i8 0,.int .i8 0,.int .i8 0,.int .i64 0,.int .i64 0,.int .i8 0,.int .i8 0,.int .i8 0,.int .i64 0,.int .i64 0])) (E1++Vt 3 (tC (eT (aK 0 h1)))++ [tC (aK 0 h1)]++Vt 5 (tC (eT (cQ 10 h2)))++ [.ret _ _ _ c3,tC (cQ 10 h2),tT]++Vt 5 (tC (eT k0))++ [.flat _ _ cf,tC k0]) (by kernel_rfl)).to (by clear E1;simp only [wk,D.bool.injEq,aL,ff,bR,k0,h1,h2,VR,VK,VM,VL];rw [Vw];simp only [hQ,aL] at*;omega)
  exact (jm (d:= .bool false) (E1++Vt 3 (tC (eT (aK 0 h1)))++ [tC (aK 0 h1)]++Vt 5 (tC (eT (cQ 10 h2)))++ [tC (cQ 10 h2),tT,tF,tF,tF,tF,tF,tF]) (by kernel_rfl)).to (by clear E1;simp only [wk,D.bool.injEq,aL,ff,bR,k0,h1,h2,VR,VK,VM,VL];rw [Vw];simp only [hQ,aL] at*;omega)
 rcases cm (decide (W3.wrap W3.i64 aF<0)) with h4|h4
 ·exact (jm (d:= .bool false) (E1++Vt 3 (tC (eT (aK 0 h4)))++ [tC (aK 0 h4),tF,tF,tF,tF,tF,tF,tT,tF,tF,tF,tF,tF,tF]) (by kernel_rfl)).to (by simp only [wk,D.bool.injEq,aL,ff,bR,k0,h4,VR,VK,VM,VL];done)
 rcases cm (decide (W3.wrap W3.i64 aF<11)) with h5|h5
 ·have c6:= @jP aw hp
  exact (jm (d:= .bool false) (E1++Vt 3 (tC (eT (aK 0 h4)))++ [tC (aK 0 h4)]++Vt 5 (tC (eT (cQ 10 h5)))++ [.ret _ _ _ c6,tC (cQ 10 h5),tT]++Vt 5 (tC (eT k0))++ [tC k0]) (by kernel_rfl)).to (by simp only [wk,D.bool.injEq,aL,ff,bR,k0,h4,h5,VR,VK,VM,VL];done)
 exact (jm (d:= .bool false) (E1++Vt 3 (tC (eT (aK 0 h4)))++ [tC (aK 0 h4)]++Vt 5 (tC (eT (cQ 10 h5)))++ [tC (cQ 10 h5),tT,tF,tF,tF,tF,tF,tF]) (by kernel_rfl)).to (by simp only [wk,D.bool.injEq,aL,ff,bR,k0,h4,h5,VR,VK,VM,VL];done)
theorem BM:o7 3:=by
 intro op w dst src base ai au cc aF aw num to ho hc hp g0 g1
 let E1:EL:=([.inl,.inl]++Vt 9 tT++ [.get ([D.fn (VE 120) [] [],D.fn (VE 117) [] [],D.fn (VE 117) [] [],D.fn (VE 123) [] [],D.fn (VE 124) [] [.ptr false 2 0],D.fn (VE 119) [] [],D.fn (VE 126) [] []]) 3 (D.fn (VE 123) [] []) rfl,tT,.inl,.inl])
 rcases cm (decide (num<0)) with h0|h0
 ·exact (jm (d:= .bool false) (E1++Vt 3 (tC (eT (aK 0 h0)))++ [tC (aK 0 h0),tT,tF,tF,tF,tF,tF,tF]) (by kernel_rfl)).to (by clear E1;simp only [wk,D.bool.injEq,aL,kC,bR,h0,VR,VK,VM,VL];rw [Vw];simp only [hQ,aL] at*;omega)
 rcases cm (decide (num<16)) with h1|h1
 ·exact (jm (d:= .bool (aa [.int .i8 3,.int .i8 op,.int .i8 w,.int .i8 dst,.int .i8 src,.int .i8 base,.int .i64 ai,.int .i64 au,.int .i8 cc,.int .i8 aF,.int .i8 aw,.int .i64 0,.int .i64 to] [.int .i8 3,.int .i8 0,.int .i8 0,.int .i8 0,.int .i8 0,.int .i8 0,.int .i64 0,.int .i64 0,.int .i8 0,.int .i8 0,.int .i8 0,.int .i64 0,.int .i64 0])) (E1++Vt 3 (tC (eT (aK 0 h0)))++ [tC (aK 0 h0),tT]++Vt 5 (tC (eT (cQ 15 h1)))++ [.flat _ _ cf,tC (cQ 15 h1)]) (by kernel_rfl)).to (by clear E1;simp only [wk,D.bool.injEq,aL,kC,bR,h0,h1,VR,VK,VM,VL];rw [Vw];simp only [hQ,aL] at*;omega)
 exact (jm (d:= .bool false) (E1++Vt 3 (tC (eT (aK 0 h0)))++ [tC (aK 0 h0),tT]++Vt 5 (tC (eT (cQ 15 h1)))++ [tC (cQ 15 h1)]) (by kernel_rfl)).to (by clear E1;simp only [wk,D.bool.injEq,aL,kC,bR,h0,h1,VR,VK,VM,VL];rw [Vw];simp only [hQ,aL] at*;omega)
theorem BL:o7 4:=by
 intro op w dst src base ai au cc aF aw num to ho hc hp g0 g1
 let E1:EL:=([.inl,.inl]++Vt 9 tT++ [.get ([D.fn (VE 120) [] [],D.fn (VE 117) [] [],D.fn (VE 117) [] [],D.fn (VE 123) [] [],D.fn (VE 124) [] [.ptr false 2 0],D.fn (VE 119) [] [],D.fn (VE 126) [] []]) 4 (D.fn (VE 124) [] [.ptr false 2 0]) rfl,tT,.inl,.flat _ _ cD])
 rcases cm (aa [.int .i8 op,.int .i8 w,.int .i8 dst,.int .i8 src,.int .i8 base,.int .i64 ai,.int .i64 au,.int .i8 cc] [.int .i8 29,.int .i8 0,.int .i8 0,.int .i8 0,.int .i8 0,.int .i64 0,.int .i64 0,.int .i8 cc]) with h0|h0
 ·have c1:= @wy cc
  let E2:EL:=E1++Vt 6 (tC (eT h0))++ [.ret _ _ _ c1,tC h0,.inl,.inl]
  rcases cm (decide (to<0)) with h2|h2
  ·exact (jm (d:= .bool false) (E2++Vt 3 (tC (eT (aK 0 h2)))++ [tC (aK 0 h2),tF,tF,tT,tF,tF,tF,tF,tF,tF]) (by kernel_rfl)).to (by clear E1 E2;simp only [wk,D.bool.injEq,aL,gJ,bR,h0,h2,VR,VK,VM,VL];first|done|rfl|(rw [Vw];simp only [hQ,aL,aa,ab,beq_self_eq_true,WT,VM] at*;first|done|omega|(intro hh;omega)|(simp;done)|(intro hh;simp at hh;omega)|(constructor<;>intro hh<;>omega)))
  let E3:EL:=E2++Vt 3 (tC (eT (aK 0 h2)))++ [tC (aK 0 h2)]
  rcases cm (decide (to<65)) with h3|h3
  ·rcases cm (aE cc) with h4|h4
   ·exact (jm (d:= .bool (aa [.int .i8 4,.int .i8 0,.int .i8 0,.int .i8 0,.int .i8 0,.int .i8 0,.int .i64 0,.int .i64 0,.int .i8 0,.int .i8 aF,.int .i8 aw,.int .i64 num,.int .i64 0] [.int .i8 4,.int .i8 0,.int .i8 0,.int .i8 0,.int .i8 0,.int .i8 0,.int .i64 0,.int .i64 0,.int .i8 0,.int .i8 0,.int .i8 0,.int .i64 0,.int .i64 0])) (E3++ [tC (eT (cQ 64 h3)),tC (cQ 64 h3),tT]++Vt 5 (tC (eT h4))++ [.flat _ _ cf,tC h4]) (by kernel_rfl)).to (by clear E1 E2 E3;simp only [wk,D.bool.injEq,aL,gJ,bR,h0,h2,h3,h4,VR,VK,VM,VL];first|done|rfl|(rw [Vw];simp only [hQ,aL,aa,ab,beq_self_eq_true,WT,VM] at*;first|done|omega|(intro hh;omega)|(simp;done)|(intro hh;simp at hh;omega)|(constructor<;>intro hh<;>omega)))
   exact (jm (d:= .bool false) (E3++ [tC (eT (cQ 64 h3)),tC (cQ 64 h3),tT]++Vt 5 (tC (eT h4))++ [tC h4]) (by kernel_rfl)).to (by clear E1 E2 E3;simp only [wk,D.bool.injEq,aL,gJ,bR,h0,h2,h3,h4,VR,VK,VM,VL];first|done|rfl|(rw [Vw];simp only [hQ,aL,aa,ab,beq_self_eq_true,WT,VM] at*;first|done|omega|(intro hh;omega)|(simp;done)|(intro hh;simp at hh;omega)|(constructor<;>intro hh<;>omega)))
  exact (jm (d:= .bool false) (E3++ [tC (eT (cQ 64 h3)),tC (cQ 64 h3),tT,tF,tF,tF,tF,tF,tF]) (by kernel_rfl)).to (by clear E1 E2 E3;simp only [wk,D.bool.injEq,aL,gJ,bR,h0,h2,h3,VR,VK,VM,VL];first|done|rfl|(rw [Vw];simp only [hQ,aL,aa,ab,beq_self_eq_true,WT,VM] at*;first|done|omega|(intro hh;omega)|(simp;done)|(intro hh;simp at hh;omega)|(constructor<;>intro hh<;>omega)))
 let E4:EL:=E1++Vt 6 (tC (eT h0))++ [tC h0,.inl,.inl]
 rcases cm (decide (to<0)) with h5|h5
 ·exact (jm (d:= .bool false) (E4++Vt 3 (tC (eT (aK 0 h5)))++ [tC (aK 0 h5),tF,tF,tT,tF,tF,tF,tF,tF,tF]) (by kernel_rfl)).to (by clear E1 E4;simp only [wk,D.bool.injEq,aL,gJ,bR,h0,h5,VR,VK,VM,VL];first|done|rfl|(rw [Vw];simp only [hQ,aL,aa,ab,beq_self_eq_true,WT,VM] at*;first|done|omega|(intro hh;omega)|(simp;done)|(intro hh;simp at hh;omega)|(constructor<;>intro hh<;>omega)))
 rcases cm (decide (to<65)) with h6|h6
 ·exact (jm (d:= .bool false) (E4++Vt 3 (tC (eT (aK 0 h5)))++ [tC (aK 0 h5),tC (eT (cQ 64 h6)),tC (cQ 64 h6),tT,tF,tF,tF,tF,tF,tF]) (by kernel_rfl)).to (by clear E1 E4;simp only [wk,D.bool.injEq,aL,gJ,bR,h0,h5,h6,VR,VK,VM,VL];first|done|rfl|(rw [Vw];simp only [hQ,aL,aa,ab,beq_self_eq_true,WT,VM] at*;first|done|omega|(intro hh;omega)|(simp;done)|(intro hh;simp at hh;omega)|(constructor<;>intro hh<;>omega)))
 exact (jm (d:= .bool false) (E4++Vt 3 (tC (eT (aK 0 h5)))++ [tC (aK 0 h5),tC (eT (cQ 64 h6)),tC (cQ 64 h6),tT,tF,tF,tF,tF,tF,tF]) (by kernel_rfl)).to (by clear E1 E4;simp only [wk,D.bool.injEq,aL,gJ,bR,h0,h5,h6,VR,VK,VM,VL];first|done|rfl|(rw [Vw];simp only [hQ,aL,aa,ab,beq_self_eq_true,WT,VM] at*;first|done|omega|(intro hh;omega)|(simp;done)|(intro hh;simp at hh;omega)|(constructor<;>intro hh<;>omega)))
theorem BK:o7 5:=by
 intro op w dst src base ai au cc aF aw num to ho hc hp g0 g1
 let E1:EL:=([.inl,.inl]++Vt 9 tT++ [.get ([D.fn (VE 120) [] [],D.fn (VE 117) [] [],D.fn (VE 117) [] [],D.fn (VE 123) [] [],D.fn (VE 124) [] [.ptr false 2 0],D.fn (VE 119) [] [],D.fn (VE 126) [] []]) 5 (D.fn (VE 119) [] []) rfl,tT,.inl,.inl])
 rcases cm (decide (to<0)) with h0|h0
 ·exact (jm (d:= .bool false) (E1++Vt 3 (tC (eT (aK 0 h0)))++ [tC (aK 0 h0),tT,tF,tF,tF,tF,tF,tF]) (by kernel_rfl)).to (by clear E1;simp only [wk,D.bool.injEq,aL,l3,bR,h0,VR,VK,VM,VL];rw [Vw];simp only [hQ,aL] at*;omega)
 rcases cm (decide (to<65)) with h1|h1
 ·exact (jm (d:= .bool (aa [.int .i8 5,.int .i8 op,.int .i8 w,.int .i8 dst,.int .i8 src,.int .i8 base,.int .i64 ai,.int .i64 au,.int .i8 cc,.int .i8 aF,.int .i8 aw,.int .i64 num,.int .i64 0] [.int .i8 5,.int .i8 0,.int .i8 0,.int .i8 0,.int .i8 0,.int .i8 0,.int .i64 0,.int .i64 0,.int .i8 0,.int .i8 0,.int .i8 0,.int .i64 0,.int .i64 0])) (E1++Vt 3 (tC (eT (aK 0 h0)))++ [tC (aK 0 h0),tT]++Vt 5 (tC (eT (cQ 64 h1)))++ [.flat _ _ cf,tC (cQ 64 h1)]) (by kernel_rfl)).to (by clear E1;simp only [wk,D.bool.injEq,aL,l3,bR,h0,h1,VR,VK,VM,VL];rw [Vw];simp only [hQ,aL] at*;omega)
 exact (jm (d:= .bool false) (E1++Vt 3 (tC (eT (aK 0 h0)))++ [tC (aK 0 h0),tT]++Vt 5 (tC (eT (cQ 64 h1)))++ [tC (cQ 64 h1)]) (by kernel_rfl)).to (by clear E1;simp only [wk,D.bool.injEq,aL,l3,bR,h0,h1,VR,VK,VM,VL];rw [Vw];simp only [hQ,aL] at*;omega)
theorem BJ:o7 6:=by
 intro op w dst src base ai au cc aF aw num to ho hc hp g0 g1
 exact (jm (d:= .bool (aa [.int .i8 6,.int .i8 op,.int .i8 w,.int .i8 dst,.int .i8 src,.int .i8 base,.int .i64 ai,.int .i64 au,.int .i8 cc,.int .i8 aF,.int .i8 aw,.int .i64 num,.int .i64 to] [.int .i8 6,.int .i8 0,.int .i8 0,.int .i8 0,.int .i8 0,.int .i8 0,.int .i64 0,.int .i64 0,.int .i8 0,.int .i8 0,.int .i8 0,.int .i64 0,.int .i64 0])) ([.inl,.inl]++Vt 9 tT++ [.get ([D.fn (VE 120) [] [],D.fn (VE 117) [] [],D.fn (VE 117) [] [],D.fn (VE 123) [] [],D.fn (VE 124) [] [.ptr false 2 0],D.fn (VE 119) [] [],D.fn (VE 126) [] []]) 6 (D.fn (VE 126) [] []) rfl,tT,.inl,tT,tT,tT,tT,tT,tT,.flat _ _ cf,tT]) (by kernel_rfl)).to (by simp only [wk,D.bool.injEq,aL,yO,bR,VR,VK,VM,VL];rw [Vw];simp only [hQ,aL] at*;omega)
theorem yV (kind op w dst src base ai au cc aF aw num to:Int) (h:kind<0) (h2: -128≤kind):aJ Tryz.prog 61 ([e6 kind op w dst src base ai au cc aF aw num to]) (.bool false):=by
 exact (jm (d:= .bool false) ([.inl,.inl]++Vt 3 (tC (eT (aK 0 (by (simp only [bm] at*;omega):(decide (W3.wrap W3.i64 kind<0))=true))))++ [tC (aK 0 (by (simp only [bm] at*;omega):(decide (W3.wrap W3.i64 kind<0))=true))]++Vt 12 tF) (by kernel_rfl)).to (by simp [wk])
theorem yW (kind op w dst src base ai au cc aF aw num to:Int) (h:7≤kind) (h2:kind≤127):aJ Tryz.prog 61 ([e6 kind op w dst src base ai au cc aF aw num to]) (.bool false):=by
 exact (jm (d:= .bool false) ([.inl,.inl]++Vt 3 (tC (eT (aK 0 (by (simp only [bm] at*;omega):(decide (W3.wrap W3.i64 kind<0))=false))))++ [tC (aK 0 (by (simp only [bm] at*;omega):(decide (W3.wrap W3.i64 kind<0))=false))]++Vt 5 (tC (eT (cQ 6 (by (simp only [bm] at*;omega):(decide (W3.wrap W3.i64 kind<7))=false))))++ [tC (cQ 6 (by (simp only [bm] at*;omega):(decide (W3.wrap W3.i64 kind<7))=false)),tF,tF,tF,tF,tF,tF]) (by kernel_rfl)).to (by simp [wk])
theorem qh (kind op w dst src base ai au cc aF aw num to:Int) (a0: -128≤kind) (a1:kind≤127) (ho:op≤127) (hc:cc≤127) (hp:aw≤127) (g0: -128≤aF) (g1:aF≤127):
  aJ Tryz.prog 61 [e6 kind op w dst src base ai au cc aF aw num to] (.bool (hH kind op w dst src base ai au cc aF aw num to)):=by
 by_cases h:0≤kind∧kind≤6
 ·have hk:kind=0∨kind=1∨kind=2∨kind=3∨kind=4∨kind=5∨kind=6:=by omega
  rcases hk with rfl|rfl|rfl|rfl|rfl|rfl|rfl
  ·exact BP _ _ _ _ _ _ _ _ _ _ _ _ ho hc hp g0 g1
  ·exact BO _ _ _ _ _ _ _ _ _ _ _ _ ho hc hp g0 g1
  ·exact BN _ _ _ _ _ _ _ _ _ _ _ _ ho hc hp g0 g1
  ·exact BM _ _ _ _ _ _ _ _ _ _ _ _ ho hc hp g0 g1
  ·exact BL _ _ _ _ _ _ _ _ _ _ _ _ ho hc hp g0 g1
  ·exact BK _ _ _ _ _ _ _ _ _ _ _ _ ho hc hp g0 g1
  ·exact BJ _ _ _ _ _ _ _ _ _ _ _ _ ho hc hp g0 g1
 ·have e:hH kind op w dst src base ai au cc aF aw num to=false:=by
   unfold hH
   rw [if_neg (by omega),if_neg (by omega),if_neg (by omega),if_neg (by omega),if_neg (by omega),if_neg (by omega)]
  rw [e]
  by_cases h2:kind<0
  ·exact yV _ _ _ _ _ _ _ _ _ _ _ _ _ h2 a0
  ·exact yW _ _ _ _ _ _ _ _ _ _ _ _ _ (by omega) a1
theorem Em (l:List D) (k:Nat) (hb:l.length≤9223372036854775807) (hk:l.length≤k):ak Tryz.prog (aC Tryz.f59 0) ⟨[],[],[]⟩ 0 [.aq .no 13 l,D.fn (VE (60:FuncId)) [] [],uu,uu,uu,uu,uu,.int .i64 (↑(VD l):Int),.int .i64 (↑k:Int),uu,uu,uu,uu,uu,uu,uu,uu,uu,uu] [] (.exit 0) [uu,uu,uu,uu,uu,uu,uu,uu,uu,uu,uu,uu,uu,uu,uu,uu,uu,uu,uu] ([]):=by
 exact (ak.ao (sp:=⟨[],[],[]⟩) (n0:=0) (ex:=Ex.exit (0:Nat)) (t':= [uu,uu,uu,uu,uu,uu,uu,uu,uu,uu,uu,uu,uu,uu,uu,uu,uu,uu,uu]) (s':= []) mixed [tC (by (simp only [bm] at*;omega):(decide ((↑k:Int)<(↑(VD l):Int)))=false)] (by kernel_rfl)).cast (by rfl) (by rfl)
theorem El (l:List D) (k:Nat) (hb:l.length≤9223372036854775807) (hk:k<l.length) (kind op w dst src base ai au cc aF aw num to:Int) (a0: -128≤kind) (a1:kind≤127) (ho:op≤127) (hc:cc≤127) (hp:aw≤127) (g0: -128≤aF) (g1:aF≤127) (hx:l[k]? =some (e6 kind op w dst src base ai au cc aF aw num to)) (he:hH kind op w dst src base ai au cc aF aw num to=true):ak Tryz.prog (aC Tryz.f59 0) ⟨[0,1,7,8],[],[]⟩ 0 [.aq .no 13 l,D.fn (VE (60:FuncId)) [] [],uu,uu,uu,uu,uu,.int .i64 (↑(VD l):Int),.int .i64 (↑k:Int),uu,uu,uu,uu,uu,uu,uu,uu,uu,uu] [] .norm [.aq .no 13 l,D.fn (VE (60:FuncId)) [] [],uu,uu,uu,uu,uu,.int .i64 (↑(VD l):Int),.int .i64 (↑(k+(1:Nat)):Int),uu,uu,uu,uu,uu,uu,uu,uu,uu,uu] ([]):=by
 have c0:= @qh kind op w dst src base ai au cc aF aw num to a0 a1 ho hc hp g0 g1
 exact (ak.ao (sp:=⟨[0,1,7,8],[],[]⟩) (n0:=0) (ex:=Ex.norm) (t':= [.aq .no 13 l,D.fn (VE (60:FuncId)) [] [],uu,uu,uu,uu,uu,.int .i64 (↑(VD l):Int),.int .i64 (W3.i64.wrap ((↑k:Int)+1)),uu,uu,uu,uu,uu,uu,uu,uu,uu,uu]) (s':= []) mixed [tC (by (simp only [bm] at*;omega):(decide ((↑k:Int)<(↑(VD l):Int)))=true),tT,.get _ _ _ hx,.inl,.ret _ _ _ c0,tC (nt he)] (by kernel_rfl)).cast (by first|rfl|(congr;rw [aY];omega)) (by first|rfl|(congr;rw [aY];omega))
theorem GI (l:List D) (k:Nat) (hb:l.length≤9223372036854775807) (hk:k<l.length) (kind op w dst src base ai au cc aF aw num to:Int) (a0: -128≤kind) (a1:kind≤127) (ho:op≤127) (hc:cc≤127) (hp:aw≤127) (g0: -128≤aF) (g1:aF≤127) (hx:l[k]? =some (e6 kind op w dst src base ai au cc aF aw num to)) (he:hH kind op w dst src base ai au cc aF aw num to=false):ak Tryz.prog (aC Tryz.f59 0) ⟨[4],[],[]⟩ 0 [.aq .no 13 l,D.fn (VE (60:FuncId)) [] [],uu,uu,uu,uu,uu,.int .i64 (↑(VD l):Int),.int .i64 (↑k:Int),uu,uu,uu,uu,uu,uu,uu,uu,uu,uu] [] (Ex.ret) [uu,uu,uu,uu,.int .i64 (↑k:Int),uu,uu,uu,uu,uu,uu,uu,uu,uu,uu,uu,uu,uu,uu] ([]):=by
 have c0:= @qh kind op w dst src base ai au cc aF aw num to a0 a1 ho hc hp g0 g1
 exact (ak.ao (sp:=⟨[4],[],[]⟩) (n0:=0) (ex:=Ex.ret) (t':= [uu,uu,uu,uu,.int .i64 (↑k:Int),uu,uu,uu,uu,uu,uu,uu,uu,uu,uu,uu,uu,uu,uu]) (s':= []) mixed [tC (by (simp only [bm] at*;omega):(decide ((↑k:Int)<(↑(VD l):Int)))=true),tT,.get _ _ _ hx,.inl,.ret _ _ _ c0,tC (nt he)] (by kernel_rfl)).cast (by rfl) (by rfl)
theorem BT (l:List dp) (hb:(l.map dp.d).length≤9223372036854775807) (ho:hE l) (hm:iV l=none):
  aI Tryz.prog 0 (.loop (aC Tryz.f59 0)) [.aq .no 13 (l.map dp.d),.fn (VE 60) [] [],.undef,.undef,.undef,.undef,.undef,.int .i64 ((l.map dp.d).length:Int),.int .i64 0,.undef,.undef,.undef,.undef,.undef,.undef,.undef,.undef,.undef,.undef] [] (.exit 0) [.undef,.undef,.undef,.undef,.undef,.undef,.undef,.undef,.undef,.undef,.undef,.undef,.undef,.undef,.undef,.undef,.undef,.undef,.undef] []:=by
 have PV:∀s∈l,s.may=true:=by
  unfold iV at hm
  rw [List.findIdx?_eq_none_iff] at hm
  intro s hs
  simpa using hm s hs
 have key:∀(n k:Nat),n+k=l.length→aA Tryz.prog (aC Tryz.f59 0) 0 [.aq .no 13 (l.map dp.d),.fn (VE 60) [] [],.undef,.undef,.undef,.undef,.undef,.int .i64 ((l.map dp.d).length:Int),.int .i64 (k:Int),.undef,.undef,.undef,.undef,.undef,.undef,.undef,.undef,.undef,.undef] [] (.exit 0) [.undef,.undef,.undef,.undef,.undef,.undef,.undef,.undef,.undef,.undef,.undef,.undef,.undef,.undef,.undef,.undef,.undef,.undef,.undef] []:=by
  intro n
  induction n with
  |zero=>
   intro k hk
   exact aA.last (Em (l.map dp.d) k hb (by simp;omega)) (by simp)
  |succ n ih=>
   intro k hk
   have hx:l[k]? =some l[k]:=by simp
   obtain ⟨a0,a1,Qz,hc,hp,g0,g1⟩:=ho _ (Wr (show k<l.length by omega))
   exact aA.bZ (El (l.map dp.d) k hb (by simp;omega) _ _ _ _ _ _ _ _ _ _ _ _ _ a0 a1 Qz hc hp g0 g1 (get_map hx) (PV _ (Wr (show k<l.length by omega)))) (ih (k+1) (by omega))
 exact aI.bf (by decide) (key l.length 0 (by omega))
theorem BS (l:List dp) (j:Nat) (hb:(l.map dp.d).length≤9223372036854775807) (ho:hE l) (hm:iV l=some j):
  aI Tryz.prog 0 (.loop (aC Tryz.f59 0)) [.aq .no 13 (l.map dp.d),.fn (VE 60) [] [],.undef,.undef,.undef,.undef,.undef,.int .i64 ((l.map dp.d).length:Int),.int .i64 0,.undef,.undef,.undef,.undef,.undef,.undef,.undef,.undef,.undef,.undef] [] .ret [.undef,.undef,.undef,.undef,.int .i64 (j:Int),.undef,.undef,.undef,.undef,.undef,.undef,.undef,.undef,.undef,.undef,.undef,.undef,.undef,.undef] []:=by
 unfold iV at hm
 rw [List.findIdx?_eq_some_iff_getElem] at hm
 obtain ⟨hj,hbad,hbefore⟩:=hm
 have key:∀(n k:Nat),n+k=j→aA Tryz.prog (aC Tryz.f59 0) 0 [.aq .no 13 (l.map dp.d),.fn (VE 60) [] [],.undef,.undef,.undef,.undef,.undef,.int .i64 ((l.map dp.d).length:Int),.int .i64 (k:Int),.undef,.undef,.undef,.undef,.undef,.undef,.undef,.undef,.undef,.undef] [] .ret [.undef,.undef,.undef,.undef,.int .i64 (j:Int),.undef,.undef,.undef,.undef,.undef,.undef,.undef,.undef,.undef,.undef,.undef,.undef,.undef,.undef] []:=by
  intro n
  induction n with
  |zero=>
   intro k hk
   obtain rfl:k=j:=by omega
   have hx:l[k]? =some l[k]:=by simp
   obtain ⟨a0,a1,Qz,hc,hp,g0,g1⟩:=ho _ (Wr hj)
   exact aA.last (GI (l.map dp.d) k hb (by simpa using hj) _ _ _ _ _ _ _ _ _ _ _ _ _ a0 a1 Qz hc hp g0 g1 (get_map hx) (show l[k].may=false by simpa using hbad)) (by simp)
  |succ n ih=>
   intro k hk
   have Pd:k<l.length:=by omega
   have hx:l[k]? =some l[k]:=by simp
   obtain ⟨a0,a1,Qz,hc,hp,g0,g1⟩:=ho _ (Wr Pd)
   exact aA.bZ (El (l.map dp.d) k hb (by simpa using Pd) _ _ _ _ _ _ _ _ _ _ _ _ _ a0 a1 Qz hc hp g0 g1 (get_map hx) (show l[k].may=true by simpa using hbefore k (by omega))) (ih (k+1) (by omega))
 exact aI.bf (by decide) (key j 0 (by omega))
end Go.Proofs.YtkpneibifdoecaaGreat
