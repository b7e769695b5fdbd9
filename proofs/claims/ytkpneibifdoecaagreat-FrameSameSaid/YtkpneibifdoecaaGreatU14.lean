import Derived.Test.YtkpneibifdoecaaGreatU05
import Derived.Test.YtkpneibifdoecaaGreatU10
import Derived.Test.YtkpneibifdoecaaGreatU11
import Derived.Test.YtkpneibifdoecaaGreatU12
import Derived.Test.YtkpneibifdoecaaGreatU13
open List renaming replicate→Vc
open Go.Fn renaming func→Ve
open Go renaming IntKind→WO
/- Contracts and plain laws that a statement's proof leans on (texts merged:XB2c,XB2d,XB2e,XBytes,XB3,XBytes2,XLen,Y1a,Y1b,Y1c,Y1d,E0F). -/
set_option linter.unusedVariables false
set_option linter.unusedSimpArgs false
set_option maxRecDepth 100000
set_option maxHeartbeats 8000000
namespace Go.Proofs.YtkpneibifdoecaaGreat
open Go Go.Ev
theorem tQ (w dst src base aa ai cc:Int) (d0:0≤dst) (d1:dst≤15) (s0:0≤src) (s1:src≤15) (b0:0≤base) (b1:base≤15) (p0: -2147483648≤aa) (p1:aa≤2147483647) (i0: -2147483648≤ai) (i1:ai≤2147483647) (c0:0≤cc) (c1:cc≤15) (hm:aA 26 w dst src base aa ai cc=true):aZ Tryz.prog 105 ([xD 26 w dst src base aa ai cc]) (.aM [.aj .no 1 (bD (bI 26 w dst src base aa ai cc)),.int .i64 0]):=by
 have c0:= @aE 26 w dst src base aa ai cc (by decide)
 rw [hm] at c0
 have c1:= @aN 26 (by decide)
 let E1:EL:= [.ret _ _ _ c0,tF,.ret _ _ _ c1,tF,tF,tF,tF,tF,tF,tT]
 by_cases h2:w=8
 ·subst h2
  rcases de (dL false dst base false) with h3|h3
  ·have c4:= @dr dst base d0 d1 b0 b1 false false h3
   generalize g6:gV false dst base=r5 at c4
   rcases de (decide (base%8=4)) with h7|h7
   ·have c8:= @eC dst base aa d0 d1 b0 b1 p0 p1 h7
    exact (ei (d:= .aM [.aj (.fresh 1) 1 [.int .u8 r5,.int .u8 15,.int .u8 182,.int .u8 (128+8*(dst%8)+base%8),.int .u8 36,.int .u8 (aa%256),.int .u8 (aa / 256%256),.int .u8 (aa / 65536%256),.int .u8 (aa / 16777216%256)],.int .i64 0]) (E1++ [tT,.ret _ _ _ c4,.inl,.ret _ _ _ c8,.inl,.go 64,tT,tT,.get ([.aj .tight 1 [.int .u8 r5],.aj .tight 1 [.int .u8 15,.int .u8 182],.aj .no 1 [.int .u8 (128+8*(dst%8)+base%8),.int .u8 36,.int .u8 (aa%256),.int .u8 (aa / 256%256),.int .u8 (aa / 65536%256),.int .u8 (aa / 16777216%256)]]) 0 (.aj .tight 1 [.int .u8 r5]) rfl,.len 1 2147483648 (by decide),tT,tT,.get ([.aj .tight 1 [.int .u8 r5],.aj .tight 1 [.int .u8 15,.int .u8 182],.aj .no 1 [.int .u8 (128+8*(dst%8)+base%8),.int .u8 36,.int .u8 (aa%256),.int .u8 (aa / 256%256),.int .u8 (aa / 65536%256),.int .u8 (aa / 16777216%256)]]) 1 (.aj .tight 1 [.int .u8 15,.int .u8 182]) rfl,.len 3 2147483648 (by decide),tT,tT,.get ([.aj .tight 1 [.int .u8 r5],.aj .tight 1 [.int .u8 15,.int .u8 182],.aj .no 1 [.int .u8 (128+8*(dst%8)+base%8),.int .u8 36,.int .u8 (aa%256),.int .u8 (aa / 256%256),.int .u8 (aa / 65536%256),.int .u8 (aa / 16777216%256)]]) 2 (.aj .no 1 [.int .u8 (128+8*(dst%8)+base%8),.int .u8 36,.int .u8 (aa%256),.int .u8 (aa / 256%256),.int .u8 (aa / 65536%256),.int .u8 (aa / 16777216%256)]) rfl,.len 9 2147483648 (by decide),tF]) (by kernel_rfl)).to (by clear E1;subst_vars;(try simp only [bJ] at*);(try simp only [beq_iff_eq] at h);(try simp only [decide_eq_true_eq,decide_eq_false_iff_not] at*);simp_all [wk,aB,aK,bI,show aR 26=7 from rfl,cr,bD,dF,dX,cE,dK])
   have c9:= @eB dst base aa d0 d1 b0 b1 p0 p1 h7
   exact (ei (d:= .aM [.aj (.fresh 1) 1 [.int .u8 r5,.int .u8 15,.int .u8 182,.int .u8 (128+8*(dst%8)+base%8),.int .u8 (aa%256),.int .u8 (aa / 256%256),.int .u8 (aa / 65536%256),.int .u8 (aa / 16777216%256)],.int .i64 0]) (E1++ [tT,.ret _ _ _ c4,.inl,.ret _ _ _ c9,.inl,.go 64,tT,tT,.get ([.aj .tight 1 [.int .u8 r5],.aj .tight 1 [.int .u8 15,.int .u8 182],.aj .no 1 [.int .u8 (128+8*(dst%8)+base%8),.int .u8 (aa%256),.int .u8 (aa / 256%256),.int .u8 (aa / 65536%256),.int .u8 (aa / 16777216%256)]]) 0 (.aj .tight 1 [.int .u8 r5]) rfl,.len 1 2147483648 (by decide),tT,tT,.get ([.aj .tight 1 [.int .u8 r5],.aj .tight 1 [.int .u8 15,.int .u8 182],.aj .no 1 [.int .u8 (128+8*(dst%8)+base%8),.int .u8 (aa%256),.int .u8 (aa / 256%256),.int .u8 (aa / 65536%256),.int .u8 (aa / 16777216%256)]]) 1 (.aj .tight 1 [.int .u8 15,.int .u8 182]) rfl,.len 3 2147483648 (by decide),tT,tT,.get ([.aj .tight 1 [.int .u8 r5],.aj .tight 1 [.int .u8 15,.int .u8 182],.aj .no 1 [.int .u8 (128+8*(dst%8)+base%8),.int .u8 (aa%256),.int .u8 (aa / 256%256),.int .u8 (aa / 65536%256),.int .u8 (aa / 16777216%256)]]) 2 (.aj .no 1 [.int .u8 (128+8*(dst%8)+base%8),.int .u8 (aa%256),.int .u8 (aa / 256%256),.int .u8 (aa / 65536%256),.int .u8 (aa / 16777216%256)]) rfl,.len 8 2147483648 (by decide),tF]) (by kernel_rfl)).to (by clear E1;subst_vars;(try simp only [bJ] at*);(try simp only [beq_iff_eq] at h);(try simp only [decide_eq_true_eq,decide_eq_false_iff_not] at*);simp_all [wk,aB,aK,bI,show aR 26=7 from rfl,cr,bD,dF,dX,cE,dK])
  have Pg:= @ea dst base d0 d1 b0 b1 false false h3
  rcases de (decide (base%8=4)) with Ss|Ss
  ·have T3:= @eC dst base aa d0 d1 b0 b1 p0 p1 Ss
   exact (ei (d:= .aM [.aj (.fresh 1) 1 [.int .u8 15,.int .u8 182,.int .u8 (128+8*(dst%8)+base%8),.int .u8 36,.int .u8 (aa%256),.int .u8 (aa / 256%256),.int .u8 (aa / 65536%256),.int .u8 (aa / 16777216%256)],.int .i64 0]) (E1++ [tT,.ret _ _ _ Pg,.inl,.ret _ _ _ T3,.inl,.go 64,tT,tT,.get ([.aj .tight 1 [],.aj .tight 1 [.int .u8 15,.int .u8 182],.aj .no 1 [.int .u8 (128+8*(dst%8)+base%8),.int .u8 36,.int .u8 (aa%256),.int .u8 (aa / 256%256),.int .u8 (aa / 65536%256),.int .u8 (aa / 16777216%256)]]) 0 (.aj .tight 1 []) rfl,.len 0 2147483648 (by decide),tT,tT,.get ([.aj .tight 1 [],.aj .tight 1 [.int .u8 15,.int .u8 182],.aj .no 1 [.int .u8 (128+8*(dst%8)+base%8),.int .u8 36,.int .u8 (aa%256),.int .u8 (aa / 256%256),.int .u8 (aa / 65536%256),.int .u8 (aa / 16777216%256)]]) 1 (.aj .tight 1 [.int .u8 15,.int .u8 182]) rfl,.len 2 2147483648 (by decide),tT,tT,.get ([.aj .tight 1 [],.aj .tight 1 [.int .u8 15,.int .u8 182],.aj .no 1 [.int .u8 (128+8*(dst%8)+base%8),.int .u8 36,.int .u8 (aa%256),.int .u8 (aa / 256%256),.int .u8 (aa / 65536%256),.int .u8 (aa / 16777216%256)]]) 2 (.aj .no 1 [.int .u8 (128+8*(dst%8)+base%8),.int .u8 36,.int .u8 (aa%256),.int .u8 (aa / 256%256),.int .u8 (aa / 65536%256),.int .u8 (aa / 16777216%256)]) rfl,.len 8 2147483648 (by decide),tF]) (by kernel_rfl)).to (by clear E1;subst_vars;(try simp only [bJ] at*);(try simp only [beq_iff_eq] at h);(try simp only [decide_eq_true_eq,decide_eq_false_iff_not] at*);simp_all [wk,aB,aK,bI,show aR 26=7 from rfl,cr,bD,dF,dX,cE,dK])
  have Pr:= @eB dst base aa d0 d1 b0 b1 p0 p1 Ss
  exact (ei (d:= .aM [.aj (.fresh 1) 1 [.int .u8 15,.int .u8 182,.int .u8 (128+8*(dst%8)+base%8),.int .u8 (aa%256),.int .u8 (aa / 256%256),.int .u8 (aa / 65536%256),.int .u8 (aa / 16777216%256)],.int .i64 0]) (E1++ [tT,.ret _ _ _ Pg,.inl,.ret _ _ _ Pr,.inl,.go 64,tT,tT,.get ([.aj .tight 1 [],.aj .tight 1 [.int .u8 15,.int .u8 182],.aj .no 1 [.int .u8 (128+8*(dst%8)+base%8),.int .u8 (aa%256),.int .u8 (aa / 256%256),.int .u8 (aa / 65536%256),.int .u8 (aa / 16777216%256)]]) 0 (.aj .tight 1 []) rfl,.len 0 2147483648 (by decide),tT,tT,.get ([.aj .tight 1 [],.aj .tight 1 [.int .u8 15,.int .u8 182],.aj .no 1 [.int .u8 (128+8*(dst%8)+base%8),.int .u8 (aa%256),.int .u8 (aa / 256%256),.int .u8 (aa / 65536%256),.int .u8 (aa / 16777216%256)]]) 1 (.aj .tight 1 [.int .u8 15,.int .u8 182]) rfl,.len 2 2147483648 (by decide),tT,tT,.get ([.aj .tight 1 [],.aj .tight 1 [.int .u8 15,.int .u8 182],.aj .no 1 [.int .u8 (128+8*(dst%8)+base%8),.int .u8 (aa%256),.int .u8 (aa / 256%256),.int .u8 (aa / 65536%256),.int .u8 (aa / 16777216%256)]]) 2 (.aj .no 1 [.int .u8 (128+8*(dst%8)+base%8),.int .u8 (aa%256),.int .u8 (aa / 256%256),.int .u8 (aa / 65536%256),.int .u8 (aa / 16777216%256)]) rfl,.len 7 2147483648 (by decide),tF]) (by kernel_rfl)).to (by clear E1;subst_vars;(try simp only [bJ] at*);(try simp only [beq_iff_eq] at h);(try simp only [decide_eq_true_eq,decide_eq_false_iff_not] at*);simp_all [wk,aB,aK,bI,show aR 26=7 from rfl,cr,bD,dF,dX,cE,dK])
 let E2:EL:=E1++ [tC (aL h2)]
 by_cases Rs:w=16
 ·subst Rs
  rcases de (dL false dst base false) with RP|RP
  ·have PQ:= @dr dst base d0 d1 b0 b1 false false RP
   generalize g18:gV false dst base=r17 at PQ
   rcases de (decide (base%8=4)) with h19|h19
   ·have Sq:= @eC dst base aa d0 d1 b0 b1 p0 p1 h19
    exact (ei (d:= .aM [.aj (.fresh 1) 1 [.int .u8 r17,.int .u8 15,.int .u8 183,.int .u8 (128+8*(dst%8)+base%8),.int .u8 36,.int .u8 (aa%256),.int .u8 (aa / 256%256),.int .u8 (aa / 65536%256),.int .u8 (aa / 16777216%256)],.int .i64 0]) (E2++ [tT,.ret _ _ _ PQ,.inl,.ret _ _ _ Sq,.inl,.go 64,tT,tT,.get ([.aj .tight 1 [.int .u8 r17],.aj .tight 1 [.int .u8 15,.int .u8 183],.aj .no 1 [.int .u8 (128+8*(dst%8)+base%8),.int .u8 36,.int .u8 (aa%256),.int .u8 (aa / 256%256),.int .u8 (aa / 65536%256),.int .u8 (aa / 16777216%256)]]) 0 (.aj .tight 1 [.int .u8 r17]) rfl,.len 1 2147483648 (by decide),tT,tT,.get ([.aj .tight 1 [.int .u8 r17],.aj .tight 1 [.int .u8 15,.int .u8 183],.aj .no 1 [.int .u8 (128+8*(dst%8)+base%8),.int .u8 36,.int .u8 (aa%256),.int .u8 (aa / 256%256),.int .u8 (aa / 65536%256),.int .u8 (aa / 16777216%256)]]) 1 (.aj .tight 1 [.int .u8 15,.int .u8 183]) rfl,.len 3 2147483648 (by decide),tT,tT,.get ([.aj .tight 1 [.int .u8 r17],.aj .tight 1 [.int .u8 15,.int .u8 183],.aj .no 1 [.int .u8 (128+8*(dst%8)+base%8),.int .u8 36,.int .u8 (aa%256),.int .u8 (aa / 256%256),.int .u8 (aa / 65536%256),.int .u8 (aa / 16777216%256)]]) 2 (.aj .no 1 [.int .u8 (128+8*(dst%8)+base%8),.int .u8 36,.int .u8 (aa%256),.int .u8 (aa / 256%256),.int .u8 (aa / 65536%256),.int .u8 (aa / 16777216%256)]) rfl,.len 9 2147483648 (by decide),tF]) (by kernel_rfl)).to (by clear E1 E2;subst_vars;(try simp only [bJ] at*);(try simp only [beq_iff_eq] at h);(try simp only [decide_eq_true_eq,decide_eq_false_iff_not] at*);simp_all [wk,aB,aK,bI,show aR 26=7 from rfl,cr,bD,dF,dX,cE,dK])
   have Te:= @eB dst base aa d0 d1 b0 b1 p0 p1 h19
   exact (ei (d:= .aM [.aj (.fresh 1) 1 [.int .u8 r17,.int .u8 15,.int .u8 183,.int .u8 (128+8*(dst%8)+base%8),.int .u8 (aa%256),.int .u8 (aa / 256%256),.int .u8 (aa / 65536%256),.int .u8 (aa / 16777216%256)],.int .i64 0]) (E2++ [tT,.ret _ _ _ PQ,.inl,.ret _ _ _ Te,.inl,.go 64,tT,tT,.get ([.aj .tight 1 [.int .u8 r17],.aj .tight 1 [.int .u8 15,.int .u8 183],.aj .no 1 [.int .u8 (128+8*(dst%8)+base%8),.int .u8 (aa%256),.int .u8 (aa / 256%256),.int .u8 (aa / 65536%256),.int .u8 (aa / 16777216%256)]]) 0 (.aj .tight 1 [.int .u8 r17]) rfl,.len 1 2147483648 (by decide),tT,tT,.get ([.aj .tight 1 [.int .u8 r17],.aj .tight 1 [.int .u8 15,.int .u8 183],.aj .no 1 [.int .u8 (128+8*(dst%8)+base%8),.int .u8 (aa%256),.int .u8 (aa / 256%256),.int .u8 (aa / 65536%256),.int .u8 (aa / 16777216%256)]]) 1 (.aj .tight 1 [.int .u8 15,.int .u8 183]) rfl,.len 3 2147483648 (by decide),tT,tT,.get ([.aj .tight 1 [.int .u8 r17],.aj .tight 1 [.int .u8 15,.int .u8 183],.aj .no 1 [.int .u8 (128+8*(dst%8)+base%8),.int .u8 (aa%256),.int .u8 (aa / 256%256),.int .u8 (aa / 65536%256),.int .u8 (aa / 16777216%256)]]) 2 (.aj .no 1 [.int .u8 (128+8*(dst%8)+base%8),.int .u8 (aa%256),.int .u8 (aa / 256%256),.int .u8 (aa / 65536%256),.int .u8 (aa / 16777216%256)]) rfl,.len 8 2147483648 (by decide),tF]) (by kernel_rfl)).to (by clear E1 E2;subst_vars;(try simp only [bJ] at*);(try simp only [beq_iff_eq] at h);(try simp only [decide_eq_true_eq,decide_eq_false_iff_not] at*);simp_all [wk,aB,aK,bI,show aR 26=7 from rfl,cr,bD,dF,dX,cE,dK])
  have R4:= @ea dst base d0 d1 b0 b1 false false RP
  rcases de (decide (base%8=4)) with h23|h23
  ·have QV:= @eC dst base aa d0 d1 b0 b1 p0 p1 h23
   exact (ei (d:= .aM [.aj (.fresh 1) 1 [.int .u8 15,.int .u8 183,.int .u8 (128+8*(dst%8)+base%8),.int .u8 36,.int .u8 (aa%256),.int .u8 (aa / 256%256),.int .u8 (aa / 65536%256),.int .u8 (aa / 16777216%256)],.int .i64 0]) (E2++ [tT,.ret _ _ _ R4,.inl,.ret _ _ _ QV,.inl,.go 64,tT,tT,.get ([.aj .tight 1 [],.aj .tight 1 [.int .u8 15,.int .u8 183],.aj .no 1 [.int .u8 (128+8*(dst%8)+base%8),.int .u8 36,.int .u8 (aa%256),.int .u8 (aa / 256%256),.int .u8 (aa / 65536%256),.int .u8 (aa / 16777216%256)]]) 0 (.aj .tight 1 []) rfl,.len 0 2147483648 (by decide),tT,tT,.get ([.aj .tight 1 [],.aj .tight 1 [.int .u8 15,.int .u8 183],.aj .no 1 [.int .u8 (128+8*(dst%8)+base%8),.int .u8 36,.int .u8 (aa%256),.int .u8 (aa / 256%256),.int .u8 (aa / 65536%256),.int .u8 (aa / 16777216%256)]]) 1 (.aj .tight 1 [.int .u8 15,.int .u8 183]) rfl,.len 2 2147483648 (by decide),tT,tT,.get ([.aj .tight 1 [],.aj .tight 1 [.int .u8 15,.int .u8 183],.aj .no 1 [.int .u8 (128+8*(dst%8)+base%8),.int .u8 36,.int .u8 (aa%256),.int .u8 (aa / 256%256),.int .u8 (aa / 65536%256),.int .u8 (aa / 16777216%256)]]) 2 (.aj .no 1 [.int .u8 (128+8*(dst%8)+base%8),.int .u8 36,.int .u8 (aa%256),.int .u8 (aa / 256%256),.int .u8 (aa / 65536%256),.int .u8 (aa / 16777216%256)]) rfl,.len 8 2147483648 (by decide),tF]) (by kernel_rfl)).to (by clear E1 E2;subst_vars;(try simp only [bJ] at*);(try simp only [beq_iff_eq] at h);(try simp only [decide_eq_true_eq,decide_eq_false_iff_not] at*);simp_all [wk,aB,aK,bI,show aR 26=7 from rfl,cr,bD,dF,dX,cE,dK])
  have RW:= @eB dst base aa d0 d1 b0 b1 p0 p1 h23
  exact (ei (d:= .aM [.aj (.fresh 1) 1 [.int .u8 15,.int .u8 183,.int .u8 (128+8*(dst%8)+base%8),.int .u8 (aa%256),.int .u8 (aa / 256%256),.int .u8 (aa / 65536%256),.int .u8 (aa / 16777216%256)],.int .i64 0]) (E2++ [tT,.ret _ _ _ R4,.inl,.ret _ _ _ RW,.inl,.go 64,tT,tT,.get ([.aj .tight 1 [],.aj .tight 1 [.int .u8 15,.int .u8 183],.aj .no 1 [.int .u8 (128+8*(dst%8)+base%8),.int .u8 (aa%256),.int .u8 (aa / 256%256),.int .u8 (aa / 65536%256),.int .u8 (aa / 16777216%256)]]) 0 (.aj .tight 1 []) rfl,.len 0 2147483648 (by decide),tT,tT,.get ([.aj .tight 1 [],.aj .tight 1 [.int .u8 15,.int .u8 183],.aj .no 1 [.int .u8 (128+8*(dst%8)+base%8),.int .u8 (aa%256),.int .u8 (aa / 256%256),.int .u8 (aa / 65536%256),.int .u8 (aa / 16777216%256)]]) 1 (.aj .tight 1 [.int .u8 15,.int .u8 183]) rfl,.len 2 2147483648 (by decide),tT,tT,.get ([.aj .tight 1 [],.aj .tight 1 [.int .u8 15,.int .u8 183],.aj .no 1 [.int .u8 (128+8*(dst%8)+base%8),.int .u8 (aa%256),.int .u8 (aa / 256%256),.int .u8 (aa / 65536%256),.int .u8 (aa / 16777216%256)]]) 2 (.aj .no 1 [.int .u8 (128+8*(dst%8)+base%8),.int .u8 (aa%256),.int .u8 (aa / 256%256),.int .u8 (aa / 65536%256),.int .u8 (aa / 16777216%256)]) rfl,.len 7 2147483648 (by decide),tF]) (by kernel_rfl)).to (by clear E1 E2;subst_vars;(try simp only [bJ] at*);(try simp only [beq_iff_eq] at h);(try simp only [decide_eq_true_eq,decide_eq_false_iff_not] at*);simp_all [wk,aB,aK,bI,show aR 26=7 from rfl,cr,bD,dF,dX,cE,dK])
 rcases de (dL (w==64) dst base false) with QE|QE
 ·have Qz:= @dr dst base d0 d1 b0 b1 (w==64) false QE
  generalize g29:gV (w==64) dst base=r28 at Qz
  rcases de (decide (base%8=4)) with h30|h30
  ·have R9:= @eC dst base aa d0 d1 b0 b1 p0 p1 h30
   exact (ei (d:= .aM [.aj (.fresh 1) 1 [.int .u8 r28,.int .u8 139,.int .u8 (128+8*(dst%8)+base%8),.int .u8 36,.int .u8 (aa%256),.int .u8 (aa / 256%256),.int .u8 (aa / 65536%256),.int .u8 (aa / 16777216%256)],.int .i64 0]) (E2++ [tC (aL Rs),.ret _ _ _ Qz,.inl,.ret _ _ _ R9,.inl,.go 64,tT,tT,.get ([.aj .tight 1 [.int .u8 r28],.aj .tight 1 [.int .u8 139],.aj .no 1 [.int .u8 (128+8*(dst%8)+base%8),.int .u8 36,.int .u8 (aa%256),.int .u8 (aa / 256%256),.int .u8 (aa / 65536%256),.int .u8 (aa / 16777216%256)]]) 0 (.aj .tight 1 [.int .u8 r28]) rfl,.len 1 2147483648 (by decide),tT,tT,.get ([.aj .tight 1 [.int .u8 r28],.aj .tight 1 [.int .u8 139],.aj .no 1 [.int .u8 (128+8*(dst%8)+base%8),.int .u8 36,.int .u8 (aa%256),.int .u8 (aa / 256%256),.int .u8 (aa / 65536%256),.int .u8 (aa / 16777216%256)]]) 1 (.aj .tight 1 [.int .u8 139]) rfl,.len 2 2147483648 (by decide),tT,tT,.get ([.aj .tight 1 [.int .u8 r28],.aj .tight 1 [.int .u8 139],.aj .no 1 [.int .u8 (128+8*(dst%8)+base%8),.int .u8 36,.int .u8 (aa%256),.int .u8 (aa / 256%256),.int .u8 (aa / 65536%256),.int .u8 (aa / 16777216%256)]]) 2 (.aj .no 1 [.int .u8 (128+8*(dst%8)+base%8),.int .u8 36,.int .u8 (aa%256),.int .u8 (aa / 256%256),.int .u8 (aa / 65536%256),.int .u8 (aa / 16777216%256)]) rfl,.len 8 2147483648 (by decide),tF]) (by kernel_rfl)).to (by clear E1 E2;subst_vars;(try simp only [bJ] at*);(try simp only [beq_iff_eq] at h);(try simp only [decide_eq_true_eq,decide_eq_false_iff_not] at*);simp_all [wk,aB,aK,bI,show aR 26=7 from rfl,cr,bD,dF,dX,cE,dK])
  have Uv:= @eB dst base aa d0 d1 b0 b1 p0 p1 h30
  exact (ei (d:= .aM [.aj (.fresh 1) 1 [.int .u8 r28,.int .u8 139,.int .u8 (128+8*(dst%8)+base%8),.int .u8 (aa%256),.int .u8 (aa / 256%256),.int .u8 (aa / 65536%256),.int .u8 (aa / 16777216%256)],.int .i64 0]) (E2++ [tC (aL Rs),.ret _ _ _ Qz,.inl,.ret _ _ _ Uv,.inl,.go 64,tT,tT,.get ([.aj .tight 1 [.int .u8 r28],.aj .tight 1 [.int .u8 139],.aj .no 1 [.int .u8 (128+8*(dst%8)+base%8),.int .u8 (aa%256),.int .u8 (aa / 256%256),.int .u8 (aa / 65536%256),.int .u8 (aa / 16777216%256)]]) 0 (.aj .tight 1 [.int .u8 r28]) rfl,.len 1 2147483648 (by decide),tT,tT,.get ([.aj .tight 1 [.int .u8 r28],.aj .tight 1 [.int .u8 139],.aj .no 1 [.int .u8 (128+8*(dst%8)+base%8),.int .u8 (aa%256),.int .u8 (aa / 256%256),.int .u8 (aa / 65536%256),.int .u8 (aa / 16777216%256)]]) 1 (.aj .tight 1 [.int .u8 139]) rfl,.len 2 2147483648 (by decide),tT,tT,.get ([.aj .tight 1 [.int .u8 r28],.aj .tight 1 [.int .u8 139],.aj .no 1 [.int .u8 (128+8*(dst%8)+base%8),.int .u8 (aa%256),.int .u8 (aa / 256%256),.int .u8 (aa / 65536%256),.int .u8 (aa / 16777216%256)]]) 2 (.aj .no 1 [.int .u8 (128+8*(dst%8)+base%8),.int .u8 (aa%256),.int .u8 (aa / 256%256),.int .u8 (aa / 65536%256),.int .u8 (aa / 16777216%256)]) rfl,.len 7 2147483648 (by decide),tF]) (by kernel_rfl)).to (by clear E1 E2;subst_vars;(try simp only [bJ] at*);(try simp only [beq_iff_eq] at h);(try simp only [decide_eq_true_eq,decide_eq_false_iff_not] at*);simp_all [wk,aB,aK,bI,show aR 26=7 from rfl,cr,bD,dF,dX,cE,dK])
 have U6:= @ea dst base d0 d1 b0 b1 (w==64) false QE
 rcases de (decide (base%8=4)) with h34|h34
 ·have c35:= @eC dst base aa d0 d1 b0 b1 p0 p1 h34
  exact (ei (d:= .aM [.aj (.fresh 1) 1 [.int .u8 139,.int .u8 (128+8*(dst%8)+base%8),.int .u8 36,.int .u8 (aa%256),.int .u8 (aa / 256%256),.int .u8 (aa / 65536%256),.int .u8 (aa / 16777216%256)],.int .i64 0]) (E2++ [tC (aL Rs),.ret _ _ _ U6,.inl,.ret _ _ _ c35,.inl,.go 64,tT,tT,.get ([.aj .tight 1 [],.aj .tight 1 [.int .u8 139],.aj .no 1 [.int .u8 (128+8*(dst%8)+base%8),.int .u8 36,.int .u8 (aa%256),.int .u8 (aa / 256%256),.int .u8 (aa / 65536%256),.int .u8 (aa / 16777216%256)]]) 0 (.aj .tight 1 []) rfl,.len 0 2147483648 (by decide),tT,tT,.get ([.aj .tight 1 [],.aj .tight 1 [.int .u8 139],.aj .no 1 [.int .u8 (128+8*(dst%8)+base%8),.int .u8 36,.int .u8 (aa%256),.int .u8 (aa / 256%256),.int .u8 (aa / 65536%256),.int .u8 (aa / 16777216%256)]]) 1 (.aj .tight 1 [.int .u8 139]) rfl,.len 1 2147483648 (by decide),tT,tT,.get ([.aj .tight 1 [],.aj .tight 1 [.int .u8 139],.aj .no 1 [.int .u8 (128+8*(dst%8)+base%8),.int .u8 36,.int .u8 (aa%256),.int .u8 (aa / 256%256),.int .u8 (aa / 65536%256),.int .u8 (aa / 16777216%256)]]) 2 (.aj .no 1 [.int .u8 (128+8*(dst%8)+base%8),.int .u8 36,.int .u8 (aa%256),.int .u8 (aa / 256%256),.int .u8 (aa / 65536%256),.int .u8 (aa / 16777216%256)]) rfl,.len 7 2147483648 (by decide),tF]) (by kernel_rfl)).to (by clear E1 E2;subst_vars;(try simp only [bJ] at*);(try simp only [beq_iff_eq] at h);(try simp only [decide_eq_true_eq,decide_eq_false_iff_not] at*);simp_all [wk,aB,aK,bI,show aR 26=7 from rfl,cr,bD,dF,dX,cE,dK])
 have c36:= @eB dst base aa d0 d1 b0 b1 p0 p1 h34
 exact (ei (d:= .aM [.aj (.fresh 1) 1 [.int .u8 139,.int .u8 (128+8*(dst%8)+base%8),.int .u8 (aa%256),.int .u8 (aa / 256%256),.int .u8 (aa / 65536%256),.int .u8 (aa / 16777216%256)],.int .i64 0]) (E2++ [tC (aL Rs),.ret _ _ _ U6,.inl,.ret _ _ _ c36,.inl,.go 64,tT,tT,.get ([.aj .tight 1 [],.aj .tight 1 [.int .u8 139],.aj .no 1 [.int .u8 (128+8*(dst%8)+base%8),.int .u8 (aa%256),.int .u8 (aa / 256%256),.int .u8 (aa / 65536%256),.int .u8 (aa / 16777216%256)]]) 0 (.aj .tight 1 []) rfl,.len 0 2147483648 (by decide),tT,tT,.get ([.aj .tight 1 [],.aj .tight 1 [.int .u8 139],.aj .no 1 [.int .u8 (128+8*(dst%8)+base%8),.int .u8 (aa%256),.int .u8 (aa / 256%256),.int .u8 (aa / 65536%256),.int .u8 (aa / 16777216%256)]]) 1 (.aj .tight 1 [.int .u8 139]) rfl,.len 1 2147483648 (by decide),tT,tT,.get ([.aj .tight 1 [],.aj .tight 1 [.int .u8 139],.aj .no 1 [.int .u8 (128+8*(dst%8)+base%8),.int .u8 (aa%256),.int .u8 (aa / 256%256),.int .u8 (aa / 65536%256),.int .u8 (aa / 16777216%256)]]) 2 (.aj .no 1 [.int .u8 (128+8*(dst%8)+base%8),.int .u8 (aa%256),.int .u8 (aa / 256%256),.int .u8 (aa / 65536%256),.int .u8 (aa / 16777216%256)]) rfl,.len 6 2147483648 (by decide),tF]) (by kernel_rfl)).to (by clear E1 E2;subst_vars;(try simp only [bJ] at*);(try simp only [beq_iff_eq] at h);(try simp only [decide_eq_true_eq,decide_eq_false_iff_not] at*);simp_all [wk,aB,aK,bI,show aR 26=7 from rfl,cr,bD,dF,dX,cE,dK])
theorem tP (w dst src base aa ai cc:Int) (d0:0≤dst) (d1:dst≤15) (s0:0≤src) (s1:src≤15) (b0:0≤base) (b1:base≤15) (p0: -2147483648≤aa) (p1:aa≤2147483647) (i0: -2147483648≤ai) (i1:ai≤2147483647) (c0:0≤cc) (c1:cc≤15) (hm:aA 27 w dst src base aa ai cc=true):aZ Tryz.prog 105 ([xD 27 w dst src base aa ai cc]) (.aM [.aj .no 1 (bD (bI 27 w dst src base aa ai cc)),.int .i64 0]):=by
 have c0:= @aE 27 w dst src base aa ai cc (by decide)
 rw [hm] at c0
 have c1:= @aN 27 (by decide)
 let E1:EL:= [.ret _ _ _ c0,tF,.ret _ _ _ c1,tF,tF,tF,tF,tF,tF,tF,tT]
 by_cases h2:w=8
 ·subst h2
  have c3:= @dr src base s0 s1 b0 b1 false true (rfl:true=true)
  generalize g5:gV false src base=r4 at c3
  rcases de (decide (base%8=4)) with h6|h6
  ·have c7:= @eC src base aa s0 s1 b0 b1 p0 p1 h6
   exact (ei (d:= .aM [.aj (.fresh 1) 1 [.int .u8 r4,.int .u8 136,.int .u8 (128+8*(src%8)+base%8),.int .u8 36,.int .u8 (aa%256),.int .u8 (aa / 256%256),.int .u8 (aa / 65536%256),.int .u8 (aa / 16777216%256)],.int .i64 0]) (E1++ [tT,.ret _ _ _ c3,.inl,.ret _ _ _ c7,.inl,.go 64,tT,tT,.get ([.aj .tight 0 [],.aj .tight 1 [.int .u8 r4],.aj .tight 1 [.int .u8 136],.aj .no 1 [.int .u8 (128+8*(src%8)+base%8),.int .u8 36,.int .u8 (aa%256),.int .u8 (aa / 256%256),.int .u8 (aa / 65536%256),.int .u8 (aa / 16777216%256)]]) 0 (.aj .tight 0 []) rfl,.len 0 2147483648 (by decide),tT,tT,.get ([.aj .tight 0 [],.aj .tight 1 [.int .u8 r4],.aj .tight 1 [.int .u8 136],.aj .no 1 [.int .u8 (128+8*(src%8)+base%8),.int .u8 36,.int .u8 (aa%256),.int .u8 (aa / 256%256),.int .u8 (aa / 65536%256),.int .u8 (aa / 16777216%256)]]) 1 (.aj .tight 1 [.int .u8 r4]) rfl,.len 1 2147483648 (by decide),tT,tT,.get ([.aj .tight 0 [],.aj .tight 1 [.int .u8 r4],.aj .tight 1 [.int .u8 136],.aj .no 1 [.int .u8 (128+8*(src%8)+base%8),.int .u8 36,.int .u8 (aa%256),.int .u8 (aa / 256%256),.int .u8 (aa / 65536%256),.int .u8 (aa / 16777216%256)]]) 2 (.aj .tight 1 [.int .u8 136]) rfl,.len 2 2147483648 (by decide),tT,tT,.get ([.aj .tight 0 [],.aj .tight 1 [.int .u8 r4],.aj .tight 1 [.int .u8 136],.aj .no 1 [.int .u8 (128+8*(src%8)+base%8),.int .u8 36,.int .u8 (aa%256),.int .u8 (aa / 256%256),.int .u8 (aa / 65536%256),.int .u8 (aa / 16777216%256)]]) 3 (.aj .no 1 [.int .u8 (128+8*(src%8)+base%8),.int .u8 36,.int .u8 (aa%256),.int .u8 (aa / 256%256),.int .u8 (aa / 65536%256),.int .u8 (aa / 16777216%256)]) rfl,.len 8 2147483648 (by decide),tF]) (by kernel_rfl)).to (by clear E1;(subst_vars;(try simp only [bJ] at*);(try simp only [beq_iff_eq] at h);(try simp only [decide_eq_true_eq,decide_eq_false_iff_not] at*);simp_all [wk,aB,aK,bI,bD,dF,dX,cE,dK,dL,cr,dV,aR];done))
  have c8:= @eB src base aa s0 s1 b0 b1 p0 p1 h6
  exact (ei (d:= .aM [.aj (.fresh 1) 1 [.int .u8 r4,.int .u8 136,.int .u8 (128+8*(src%8)+base%8),.int .u8 (aa%256),.int .u8 (aa / 256%256),.int .u8 (aa / 65536%256),.int .u8 (aa / 16777216%256)],.int .i64 0]) (E1++ [tT,.ret _ _ _ c3,.inl,.ret _ _ _ c8,.inl,.go 64,tT,tT,.get ([.aj .tight 0 [],.aj .tight 1 [.int .u8 r4],.aj .tight 1 [.int .u8 136],.aj .no 1 [.int .u8 (128+8*(src%8)+base%8),.int .u8 (aa%256),.int .u8 (aa / 256%256),.int .u8 (aa / 65536%256),.int .u8 (aa / 16777216%256)]]) 0 (.aj .tight 0 []) rfl,.len 0 2147483648 (by decide),tT,tT,.get ([.aj .tight 0 [],.aj .tight 1 [.int .u8 r4],.aj .tight 1 [.int .u8 136],.aj .no 1 [.int .u8 (128+8*(src%8)+base%8),.int .u8 (aa%256),.int .u8 (aa / 256%256),.int .u8 (aa / 65536%256),.int .u8 (aa / 16777216%256)]]) 1 (.aj .tight 1 [.int .u8 r4]) rfl,.len 1 2147483648 (by decide),tT,tT,.get ([.aj .tight 0 [],.aj .tight 1 [.int .u8 r4],.aj .tight 1 [.int .u8 136],.aj .no 1 [.int .u8 (128+8*(src%8)+base%8),.int .u8 (aa%256),.int .u8 (aa / 256%256),.int .u8 (aa / 65536%256),.int .u8 (aa / 16777216%256)]]) 2 (.aj .tight 1 [.int .u8 136]) rfl,.len 2 2147483648 (by decide),tT,tT,.get ([.aj .tight 0 [],.aj .tight 1 [.int .u8 r4],.aj .tight 1 [.int .u8 136],.aj .no 1 [.int .u8 (128+8*(src%8)+base%8),.int .u8 (aa%256),.int .u8 (aa / 256%256),.int .u8 (aa / 65536%256),.int .u8 (aa / 16777216%256)]]) 3 (.aj .no 1 [.int .u8 (128+8*(src%8)+base%8),.int .u8 (aa%256),.int .u8 (aa / 256%256),.int .u8 (aa / 65536%256),.int .u8 (aa / 16777216%256)]) rfl,.len 7 2147483648 (by decide),tF]) (by kernel_rfl)).to (by clear E1;(subst_vars;(try simp only [bJ] at*);(try simp only [beq_iff_eq] at h);(try simp only [decide_eq_true_eq,decide_eq_false_iff_not] at*);simp_all [wk,aB,aK,bI,bD,dF,dX,cE,dK,dL,cr,dV,aR];done))
 let E2:EL:=E1++ [tC (aL h2)]
 by_cases h9:w=16
 ·subst h9
  rcases de (dL false src base false) with Sx|Sx
  ·have SN:= @dr src base s0 s1 b0 b1 false false Sx
   generalize g13:gV false src base=P8 at SN
   rcases de (decide (base%8=4)) with Rs|Rs
   ·have T8:= @eC src base aa s0 s1 b0 b1 p0 p1 Rs
    exact (ei (d:= .aM [.aj (.fresh 1) 1 [.int .u8 102,.int .u8 P8,.int .u8 137,.int .u8 (128+8*(src%8)+base%8),.int .u8 36,.int .u8 (aa%256),.int .u8 (aa / 256%256),.int .u8 (aa / 65536%256),.int .u8 (aa / 16777216%256)],.int .i64 0]) (E2++ [tT,.ret _ _ _ SN,.inl,.ret _ _ _ T8,.inl,.go 64,tT,tT,.get ([.aj .tight 1 [.int .u8 102],.aj .tight 1 [.int .u8 P8],.aj .tight 1 [.int .u8 137],.aj .no 1 [.int .u8 (128+8*(src%8)+base%8),.int .u8 36,.int .u8 (aa%256),.int .u8 (aa / 256%256),.int .u8 (aa / 65536%256),.int .u8 (aa / 16777216%256)]]) 0 (.aj .tight 1 [.int .u8 102]) rfl,.len 1 2147483648 (by decide),tT,tT,.get ([.aj .tight 1 [.int .u8 102],.aj .tight 1 [.int .u8 P8],.aj .tight 1 [.int .u8 137],.aj .no 1 [.int .u8 (128+8*(src%8)+base%8),.int .u8 36,.int .u8 (aa%256),.int .u8 (aa / 256%256),.int .u8 (aa / 65536%256),.int .u8 (aa / 16777216%256)]]) 1 (.aj .tight 1 [.int .u8 P8]) rfl,.len 2 2147483648 (by decide),tT,tT,.get ([.aj .tight 1 [.int .u8 102],.aj .tight 1 [.int .u8 P8],.aj .tight 1 [.int .u8 137],.aj .no 1 [.int .u8 (128+8*(src%8)+base%8),.int .u8 36,.int .u8 (aa%256),.int .u8 (aa / 256%256),.int .u8 (aa / 65536%256),.int .u8 (aa / 16777216%256)]]) 2 (.aj .tight 1 [.int .u8 137]) rfl,.len 3 2147483648 (by decide),tT,tT,.get ([.aj .tight 1 [.int .u8 102],.aj .tight 1 [.int .u8 P8],.aj .tight 1 [.int .u8 137],.aj .no 1 [.int .u8 (128+8*(src%8)+base%8),.int .u8 36,.int .u8 (aa%256),.int .u8 (aa / 256%256),.int .u8 (aa / 65536%256),.int .u8 (aa / 16777216%256)]]) 3 (.aj .no 1 [.int .u8 (128+8*(src%8)+base%8),.int .u8 36,.int .u8 (aa%256),.int .u8 (aa / 256%256),.int .u8 (aa / 65536%256),.int .u8 (aa / 16777216%256)]) rfl,.len 9 2147483648 (by decide),tF]) (by kernel_rfl)).to (by clear E1 E2;(subst_vars;(try simp only [bJ] at*);(try simp only [beq_iff_eq] at h);(try simp only [decide_eq_true_eq,decide_eq_false_iff_not] at*);simp_all [wk,aB,aK,bI,bD,dF,dX,cE,dK,dL,cr,dV,aR];done))
   have PQ:= @eB src base aa s0 s1 b0 b1 p0 p1 Rs
   exact (ei (d:= .aM [.aj (.fresh 1) 1 [.int .u8 102,.int .u8 P8,.int .u8 137,.int .u8 (128+8*(src%8)+base%8),.int .u8 (aa%256),.int .u8 (aa / 256%256),.int .u8 (aa / 65536%256),.int .u8 (aa / 16777216%256)],.int .i64 0]) (E2++ [tT,.ret _ _ _ SN,.inl,.ret _ _ _ PQ,.inl,.go 64,tT,tT,.get ([.aj .tight 1 [.int .u8 102],.aj .tight 1 [.int .u8 P8],.aj .tight 1 [.int .u8 137],.aj .no 1 [.int .u8 (128+8*(src%8)+base%8),.int .u8 (aa%256),.int .u8 (aa / 256%256),.int .u8 (aa / 65536%256),.int .u8 (aa / 16777216%256)]]) 0 (.aj .tight 1 [.int .u8 102]) rfl,.len 1 2147483648 (by decide),tT,tT,.get ([.aj .tight 1 [.int .u8 102],.aj .tight 1 [.int .u8 P8],.aj .tight 1 [.int .u8 137],.aj .no 1 [.int .u8 (128+8*(src%8)+base%8),.int .u8 (aa%256),.int .u8 (aa / 256%256),.int .u8 (aa / 65536%256),.int .u8 (aa / 16777216%256)]]) 1 (.aj .tight 1 [.int .u8 P8]) rfl,.len 2 2147483648 (by decide),tT,tT,.get ([.aj .tight 1 [.int .u8 102],.aj .tight 1 [.int .u8 P8],.aj .tight 1 [.int .u8 137],.aj .no 1 [.int .u8 (128+8*(src%8)+base%8),.int .u8 (aa%256),.int .u8 (aa / 256%256),.int .u8 (aa / 65536%256),.int .u8 (aa / 16777216%256)]]) 2 (.aj .tight 1 [.int .u8 137]) rfl,.len 3 2147483648 (by decide),tT,tT,.get ([.aj .tight 1 [.int .u8 102],.aj .tight 1 [.int .u8 P8],.aj .tight 1 [.int .u8 137],.aj .no 1 [.int .u8 (128+8*(src%8)+base%8),.int .u8 (aa%256),.int .u8 (aa / 256%256),.int .u8 (aa / 65536%256),.int .u8 (aa / 16777216%256)]]) 3 (.aj .no 1 [.int .u8 (128+8*(src%8)+base%8),.int .u8 (aa%256),.int .u8 (aa / 256%256),.int .u8 (aa / 65536%256),.int .u8 (aa / 16777216%256)]) rfl,.len 8 2147483648 (by decide),tF]) (by kernel_rfl)).to (by clear E1 E2;(subst_vars;(try simp only [bJ] at*);(try simp only [beq_iff_eq] at h);(try simp only [decide_eq_true_eq,decide_eq_false_iff_not] at*);simp_all [wk,aB,aK,bI,bD,dF,dX,cE,dK,dL,cr,dV,aR];done))
  have TA:= @ea src base s0 s1 b0 b1 false false Sx
  rcases de (decide (base%8=4)) with h18|h18
  ·have Qc:= @eC src base aa s0 s1 b0 b1 p0 p1 h18
   exact (ei (d:= .aM [.aj (.fresh 1) 1 [.int .u8 102,.int .u8 137,.int .u8 (128+8*(src%8)+base%8),.int .u8 36,.int .u8 (aa%256),.int .u8 (aa / 256%256),.int .u8 (aa / 65536%256),.int .u8 (aa / 16777216%256)],.int .i64 0]) (E2++ [tT,.ret _ _ _ TA,.inl,.ret _ _ _ Qc,.inl,.go 64,tT,tT,.get ([.aj .tight 1 [.int .u8 102],.aj .tight 1 [],.aj .tight 1 [.int .u8 137],.aj .no 1 [.int .u8 (128+8*(src%8)+base%8),.int .u8 36,.int .u8 (aa%256),.int .u8 (aa / 256%256),.int .u8 (aa / 65536%256),.int .u8 (aa / 16777216%256)]]) 0 (.aj .tight 1 [.int .u8 102]) rfl,.len 1 2147483648 (by decide),tT,tT,.get ([.aj .tight 1 [.int .u8 102],.aj .tight 1 [],.aj .tight 1 [.int .u8 137],.aj .no 1 [.int .u8 (128+8*(src%8)+base%8),.int .u8 36,.int .u8 (aa%256),.int .u8 (aa / 256%256),.int .u8 (aa / 65536%256),.int .u8 (aa / 16777216%256)]]) 1 (.aj .tight 1 []) rfl,.len 1 2147483648 (by decide),tT,tT,.get ([.aj .tight 1 [.int .u8 102],.aj .tight 1 [],.aj .tight 1 [.int .u8 137],.aj .no 1 [.int .u8 (128+8*(src%8)+base%8),.int .u8 36,.int .u8 (aa%256),.int .u8 (aa / 256%256),.int .u8 (aa / 65536%256),.int .u8 (aa / 16777216%256)]]) 2 (.aj .tight 1 [.int .u8 137]) rfl,.len 2 2147483648 (by decide),tT,tT,.get ([.aj .tight 1 [.int .u8 102],.aj .tight 1 [],.aj .tight 1 [.int .u8 137],.aj .no 1 [.int .u8 (128+8*(src%8)+base%8),.int .u8 36,.int .u8 (aa%256),.int .u8 (aa / 256%256),.int .u8 (aa / 65536%256),.int .u8 (aa / 16777216%256)]]) 3 (.aj .no 1 [.int .u8 (128+8*(src%8)+base%8),.int .u8 36,.int .u8 (aa%256),.int .u8 (aa / 256%256),.int .u8 (aa / 65536%256),.int .u8 (aa / 16777216%256)]) rfl,.len 8 2147483648 (by decide),tF]) (by kernel_rfl)).to (by clear E1 E2;(subst_vars;(try simp only [bJ] at*);(try simp only [beq_iff_eq] at h);(try simp only [decide_eq_true_eq,decide_eq_false_iff_not] at*);simp_all [wk,aB,aK,bI,bD,dF,dX,cE,dK,dL,cr,dV,aR];done))
  have Sq:= @eB src base aa s0 s1 b0 b1 p0 p1 h18
  exact (ei (d:= .aM [.aj (.fresh 1) 1 [.int .u8 102,.int .u8 137,.int .u8 (128+8*(src%8)+base%8),.int .u8 (aa%256),.int .u8 (aa / 256%256),.int .u8 (aa / 65536%256),.int .u8 (aa / 16777216%256)],.int .i64 0]) (E2++ [tT,.ret _ _ _ TA,.inl,.ret _ _ _ Sq,.inl,.go 64,tT,tT,.get ([.aj .tight 1 [.int .u8 102],.aj .tight 1 [],.aj .tight 1 [.int .u8 137],.aj .no 1 [.int .u8 (128+8*(src%8)+base%8),.int .u8 (aa%256),.int .u8 (aa / 256%256),.int .u8 (aa / 65536%256),.int .u8 (aa / 16777216%256)]]) 0 (.aj .tight 1 [.int .u8 102]) rfl,.len 1 2147483648 (by decide),tT,tT,.get ([.aj .tight 1 [.int .u8 102],.aj .tight 1 [],.aj .tight 1 [.int .u8 137],.aj .no 1 [.int .u8 (128+8*(src%8)+base%8),.int .u8 (aa%256),.int .u8 (aa / 256%256),.int .u8 (aa / 65536%256),.int .u8 (aa / 16777216%256)]]) 1 (.aj .tight 1 []) rfl,.len 1 2147483648 (by decide),tT,tT,.get ([.aj .tight 1 [.int .u8 102],.aj .tight 1 [],.aj .tight 1 [.int .u8 137],.aj .no 1 [.int .u8 (128+8*(src%8)+base%8),.int .u8 (aa%256),.int .u8 (aa / 256%256),.int .u8 (aa / 65536%256),.int .u8 (aa / 16777216%256)]]) 2 (.aj .tight 1 [.int .u8 137]) rfl,.len 2 2147483648 (by decide),tT,tT,.get ([.aj .tight 1 [.int .u8 102],.aj .tight 1 [],.aj .tight 1 [.int .u8 137],.aj .no 1 [.int .u8 (128+8*(src%8)+base%8),.int .u8 (aa%256),.int .u8 (aa / 256%256),.int .u8 (aa / 65536%256),.int .u8 (aa / 16777216%256)]]) 3 (.aj .no 1 [.int .u8 (128+8*(src%8)+base%8),.int .u8 (aa%256),.int .u8 (aa / 256%256),.int .u8 (aa / 65536%256),.int .u8 (aa / 16777216%256)]) rfl,.len 7 2147483648 (by decide),tF]) (by kernel_rfl)).to (by clear E1 E2;(subst_vars;(try simp only [bJ] at*);(try simp only [beq_iff_eq] at h);(try simp only [decide_eq_true_eq,decide_eq_false_iff_not] at*);simp_all [wk,aB,aK,bI,bD,dF,dX,cE,dK,dL,cr,dV,aR];done))
 rcases de (dL (w==64) src base (w==8)) with h21|h21
 ·have R4:= @dr src base s0 s1 b0 b1 (w==64) (w==8) h21
  generalize g24:gV (w==64) src base=r23 at R4
  rcases de (decide (base%8=4)) with h25|h25
  ·have R5:= @eC src base aa s0 s1 b0 b1 p0 p1 h25
   exact (ei (d:= .aM [.aj (.fresh 1) 1 [.int .u8 r23,.int .u8 137,.int .u8 (128+8*(src%8)+base%8),.int .u8 36,.int .u8 (aa%256),.int .u8 (aa / 256%256),.int .u8 (aa / 65536%256),.int .u8 (aa / 16777216%256)],.int .i64 0]) (E2++ [tC (aL h9),.ret _ _ _ R4,.inl,.ret _ _ _ R5,.inl,.go 64,tT,tT,.get ([.aj .tight 0 [],.aj .tight 1 [.int .u8 r23],.aj .tight 1 [.int .u8 137],.aj .no 1 [.int .u8 (128+8*(src%8)+base%8),.int .u8 36,.int .u8 (aa%256),.int .u8 (aa / 256%256),.int .u8 (aa / 65536%256),.int .u8 (aa / 16777216%256)]]) 0 (.aj .tight 0 []) rfl,.len 0 2147483648 (by decide),tT,tT,.get ([.aj .tight 0 [],.aj .tight 1 [.int .u8 r23],.aj .tight 1 [.int .u8 137],.aj .no 1 [.int .u8 (128+8*(src%8)+base%8),.int .u8 36,.int .u8 (aa%256),.int .u8 (aa / 256%256),.int .u8 (aa / 65536%256),.int .u8 (aa / 16777216%256)]]) 1 (.aj .tight 1 [.int .u8 r23]) rfl,.len 1 2147483648 (by decide),tT,tT,.get ([.aj .tight 0 [],.aj .tight 1 [.int .u8 r23],.aj .tight 1 [.int .u8 137],.aj .no 1 [.int .u8 (128+8*(src%8)+base%8),.int .u8 36,.int .u8 (aa%256),.int .u8 (aa / 256%256),.int .u8 (aa / 65536%256),.int .u8 (aa / 16777216%256)]]) 2 (.aj .tight 1 [.int .u8 137]) rfl,.len 2 2147483648 (by decide),tT,tT,.get ([.aj .tight 0 [],.aj .tight 1 [.int .u8 r23],.aj .tight 1 [.int .u8 137],.aj .no 1 [.int .u8 (128+8*(src%8)+base%8),.int .u8 36,.int .u8 (aa%256),.int .u8 (aa / 256%256),.int .u8 (aa / 65536%256),.int .u8 (aa / 16777216%256)]]) 3 (.aj .no 1 [.int .u8 (128+8*(src%8)+base%8),.int .u8 36,.int .u8 (aa%256),.int .u8 (aa / 256%256),.int .u8 (aa / 65536%256),.int .u8 (aa / 16777216%256)]) rfl,.len 8 2147483648 (by decide),tF]) (by kernel_rfl)).to (by clear E1 E2;(subst_vars;(try simp only [bJ] at*);(try simp only [beq_iff_eq] at h);(try simp only [decide_eq_true_eq,decide_eq_false_iff_not] at*);simp_all [wk,aB,aK,bI,bD,dF,dX,cE,dK,dL,cr,dV,aR];done))
  have Qz:= @eB src base aa s0 s1 b0 b1 p0 p1 h25
  exact (ei (d:= .aM [.aj (.fresh 1) 1 [.int .u8 r23,.int .u8 137,.int .u8 (128+8*(src%8)+base%8),.int .u8 (aa%256),.int .u8 (aa / 256%256),.int .u8 (aa / 65536%256),.int .u8 (aa / 16777216%256)],.int .i64 0]) (E2++ [tC (aL h9),.ret _ _ _ R4,.inl,.ret _ _ _ Qz,.inl,.go 64,tT,tT,.get ([.aj .tight 0 [],.aj .tight 1 [.int .u8 r23],.aj .tight 1 [.int .u8 137],.aj .no 1 [.int .u8 (128+8*(src%8)+base%8),.int .u8 (aa%256),.int .u8 (aa / 256%256),.int .u8 (aa / 65536%256),.int .u8 (aa / 16777216%256)]]) 0 (.aj .tight 0 []) rfl,.len 0 2147483648 (by decide),tT,tT,.get ([.aj .tight 0 [],.aj .tight 1 [.int .u8 r23],.aj .tight 1 [.int .u8 137],.aj .no 1 [.int .u8 (128+8*(src%8)+base%8),.int .u8 (aa%256),.int .u8 (aa / 256%256),.int .u8 (aa / 65536%256),.int .u8 (aa / 16777216%256)]]) 1 (.aj .tight 1 [.int .u8 r23]) rfl,.len 1 2147483648 (by decide),tT,tT,.get ([.aj .tight 0 [],.aj .tight 1 [.int .u8 r23],.aj .tight 1 [.int .u8 137],.aj .no 1 [.int .u8 (128+8*(src%8)+base%8),.int .u8 (aa%256),.int .u8 (aa / 256%256),.int .u8 (aa / 65536%256),.int .u8 (aa / 16777216%256)]]) 2 (.aj .tight 1 [.int .u8 137]) rfl,.len 2 2147483648 (by decide),tT,tT,.get ([.aj .tight 0 [],.aj .tight 1 [.int .u8 r23],.aj .tight 1 [.int .u8 137],.aj .no 1 [.int .u8 (128+8*(src%8)+base%8),.int .u8 (aa%256),.int .u8 (aa / 256%256),.int .u8 (aa / 65536%256),.int .u8 (aa / 16777216%256)]]) 3 (.aj .no 1 [.int .u8 (128+8*(src%8)+base%8),.int .u8 (aa%256),.int .u8 (aa / 256%256),.int .u8 (aa / 65536%256),.int .u8 (aa / 16777216%256)]) rfl,.len 7 2147483648 (by decide),tF]) (by kernel_rfl)).to (by clear E1 E2;(subst_vars;(try simp only [bJ] at*);(try simp only [beq_iff_eq] at h);(try simp only [decide_eq_true_eq,decide_eq_false_iff_not] at*);simp_all [wk,aB,aK,bI,bD,dF,dX,cE,dK,dL,cr,dV,aR];done))
 have TQ:= @ea src base s0 s1 b0 b1 (w==64) (w==8) h21
 rcases de (decide (base%8=4)) with h29|h29
 ·have R8:= @eC src base aa s0 s1 b0 b1 p0 p1 h29
  exact (ei (d:= .aM [.aj (.fresh 1) 1 [.int .u8 137,.int .u8 (128+8*(src%8)+base%8),.int .u8 36,.int .u8 (aa%256),.int .u8 (aa / 256%256),.int .u8 (aa / 65536%256),.int .u8 (aa / 16777216%256)],.int .i64 0]) (E2++ [tC (aL h9),.ret _ _ _ TQ,.inl,.ret _ _ _ R8,.inl,.go 64,tT,tT,.get ([.aj .tight 0 [],.aj .tight 1 [],.aj .tight 1 [.int .u8 137],.aj .no 1 [.int .u8 (128+8*(src%8)+base%8),.int .u8 36,.int .u8 (aa%256),.int .u8 (aa / 256%256),.int .u8 (aa / 65536%256),.int .u8 (aa / 16777216%256)]]) 0 (.aj .tight 0 []) rfl,.len 0 2147483648 (by decide),tT,tT,.get ([.aj .tight 0 [],.aj .tight 1 [],.aj .tight 1 [.int .u8 137],.aj .no 1 [.int .u8 (128+8*(src%8)+base%8),.int .u8 36,.int .u8 (aa%256),.int .u8 (aa / 256%256),.int .u8 (aa / 65536%256),.int .u8 (aa / 16777216%256)]]) 1 (.aj .tight 1 []) rfl,.len 0 2147483648 (by decide),tT,tT,.get ([.aj .tight 0 [],.aj .tight 1 [],.aj .tight 1 [.int .u8 137],.aj .no 1 [.int .u8 (128+8*(src%8)+base%8),.int .u8 36,.int .u8 (aa%256),.int .u8 (aa / 256%256),.int .u8 (aa / 65536%256),.int .u8 (aa / 16777216%256)]]) 2 (.aj .tight 1 [.int .u8 137]) rfl,.len 1 2147483648 (by decide),tT,tT,.get ([.aj .tight 0 [],.aj .tight 1 [],.aj .tight 1 [.int .u8 137],.aj .no 1 [.int .u8 (128+8*(src%8)+base%8),.int .u8 36,.int .u8 (aa%256),.int .u8 (aa / 256%256),.int .u8 (aa / 65536%256),.int .u8 (aa / 16777216%256)]]) 3 (.aj .no 1 [.int .u8 (128+8*(src%8)+base%8),.int .u8 36,.int .u8 (aa%256),.int .u8 (aa / 256%256),.int .u8 (aa / 65536%256),.int .u8 (aa / 16777216%256)]) rfl,.len 7 2147483648 (by decide),tF]) (by kernel_rfl)).to (by clear E1 E2;(subst_vars;(try simp only [bJ] at*);(try simp only [beq_iff_eq] at h);(try simp only [decide_eq_true_eq,decide_eq_false_iff_not] at*);simp_all [wk,aB,aK,bI,bD,dF,dX,cE,dK,dL,cr,dV,aR];done))
 have R9:= @eB src base aa s0 s1 b0 b1 p0 p1 h29
 exact (ei (d:= .aM [.aj (.fresh 1) 1 [.int .u8 137,.int .u8 (128+8*(src%8)+base%8),.int .u8 (aa%256),.int .u8 (aa / 256%256),.int .u8 (aa / 65536%256),.int .u8 (aa / 16777216%256)],.int .i64 0]) (E2++ [tC (aL h9),.ret _ _ _ TQ,.inl,.ret _ _ _ R9,.inl,.go 64,tT,tT,.get ([.aj .tight 0 [],.aj .tight 1 [],.aj .tight 1 [.int .u8 137],.aj .no 1 [.int .u8 (128+8*(src%8)+base%8),.int .u8 (aa%256),.int .u8 (aa / 256%256),.int .u8 (aa / 65536%256),.int .u8 (aa / 16777216%256)]]) 0 (.aj .tight 0 []) rfl,.len 0 2147483648 (by decide),tT,tT,.get ([.aj .tight 0 [],.aj .tight 1 [],.aj .tight 1 [.int .u8 137],.aj .no 1 [.int .u8 (128+8*(src%8)+base%8),.int .u8 (aa%256),.int .u8 (aa / 256%256),.int .u8 (aa / 65536%256),.int .u8 (aa / 16777216%256)]]) 1 (.aj .tight 1 []) rfl,.len 0 2147483648 (by decide),tT,tT,.get ([.aj .tight 0 [],.aj .tight 1 [],.aj .tight 1 [.int .u8 137],.aj .no 1 [.int .u8 (128+8*(src%8)+base%8),.int .u8 (aa%256),.int .u8 (aa / 256%256),.int .u8 (aa / 65536%256),.int .u8 (aa / 16777216%256)]]) 2 (.aj .tight 1 [.int .u8 137]) rfl,.len 1 2147483648 (by decide),tT,tT,.get ([.aj .tight 0 [],.aj .tight 1 [],.aj .tight 1 [.int .u8 137],.aj .no 1 [.int .u8 (128+8*(src%8)+base%8),.int .u8 (aa%256),.int .u8 (aa / 256%256),.int .u8 (aa / 65536%256),.int .u8 (aa / 16777216%256)]]) 3 (.aj .no 1 [.int .u8 (128+8*(src%8)+base%8),.int .u8 (aa%256),.int .u8 (aa / 256%256),.int .u8 (aa / 65536%256),.int .u8 (aa / 16777216%256)]) rfl,.len 6 2147483648 (by decide),tF]) (by kernel_rfl)).to (by clear E1 E2;(subst_vars;(try simp only [bJ] at*);(try simp only [beq_iff_eq] at h);(try simp only [decide_eq_true_eq,decide_eq_false_iff_not] at*);simp_all [wk,aB,aK,bI,bD,dF,dX,cE,dK,dL,cr,dV,aR];done))
def oL (Pf:Int):Prop:= ∀(w dst src base aa ai cc:Int) (d0:0≤dst) (d1:dst≤15) (s0:0≤src) (s1:src≤15) (b0:0≤base) (b1:base≤15) (p0: -2147483648≤aa) (p1:aa≤2147483647) (i0: -2147483648≤ai) (i1:ai≤2147483647) (c0:0≤cc) (c1:cc≤15) (hm:aA Pf w dst src base aa ai cc=true),aZ Tryz.prog 105 ([xD Pf w dst src base aa ai cc]) (.aM [.aj .no 1 (bD (bI Pf w dst src base aa ai cc)),.int .i64 0])
theorem tN:oL 28:=by
 intro w dst src base aa ai cc d0 d1 s0 s1 b0 b1 p0 p1 i0 i1 c0 c1 hm
 have c0:= @aE 28 w dst src base aa ai cc (by decide)
 rw [show (aA 28 w dst src base aa ai cc)=true from hm] at c0
 have c1:= @aN 28 (by decide)
 by_cases h2:w=8
 ·subst h2
  exact (ei (d:= .aM [.aj .tight 1 [.int .u8 235,.int .u8 (WO.wrap WO.u8 ai)],.int .i64 0]) ([.ret _ _ _ c0,tF,.ret _ _ _ c1]++Vc 8 tF++ [tT,tT]) (by kernel_rfl)).to (by (subst_vars;(try simp only [bJ] at*);(try simp only [beq_iff_eq] at h);(try simp only [decide_eq_true_eq,decide_eq_false_iff_not] at*);simp_all [wk,aB,aK,bI,show aR 28=9 from rfl,bD,dF,dX,cE,dK];done))
 have c3:= @jN ai
 exact (ei (d:= .aM [.aj (.fresh 1) 1 [.int .u8 233,.int .u8 (ai%256),.int .u8 (ai / 256%256),.int .u8 (ai / 65536%256),.int .u8 (ai / 16777216%256)],.int .i64 0]) ([.ret _ _ _ c0,tF,.ret _ _ _ c1]++Vc 8 tF++ [tT,tC (aL h2),.ret _ _ _ c3,.inl,.go 64,tT,tT,.get ([.aj .tight 1 [.int .u8 233],.aj .no 1 [.int .u8 (ai%256),.int .u8 (ai / 256%256),.int .u8 (ai / 65536%256),.int .u8 (ai / 16777216%256)]]) 0 (.aj .tight 1 [.int .u8 233]) rfl,.len 1 2147483648 (by decide),tT,tT,.get ([.aj .tight 1 [.int .u8 233],.aj .no 1 [.int .u8 (ai%256),.int .u8 (ai / 256%256),.int .u8 (ai / 65536%256),.int .u8 (ai / 16777216%256)]]) 1 (.aj .no 1 [.int .u8 (ai%256),.int .u8 (ai / 256%256),.int .u8 (ai / 65536%256),.int .u8 (ai / 16777216%256)]) rfl,.len 5 2147483648 (by decide),tF]) (by kernel_rfl)).to (by (subst_vars;(try simp only [bJ] at*);(try simp only [beq_iff_eq] at h);(try simp only [decide_eq_true_eq,decide_eq_false_iff_not] at*);simp_all [wk,aB,aK,bI,show aR 28=9 from rfl,bD,dF,dX,cE,dK];done))
theorem tM:oL 29:=by
 intro w dst src base aa ai cc d0 d1 s0 s1 b0 b1 p0 p1 i0 i1 c0 c1 hm
 have c0:= @aE 29 w dst src base aa ai cc (by decide)
 rw [show (aA 29 w dst src base aa ai cc)=true from hm] at c0
 have c1:= @aN 29 (by decide)
 by_cases h2:w=8
 ·subst h2
  exact (ei (d:= .aM [.aj .tight 1 [.int .u8 (WO.wrap WO.u8 (112+WO.wrap WO.u8 cc)),.int .u8 (WO.wrap WO.u8 ai)],.int .i64 0]) ([.ret _ _ _ c0,tF,.ret _ _ _ c1]++Vc 9 tF++ [tT,tT]) (by kernel_rfl)).to (by (subst_vars;(try simp only [bJ] at*);(try simp only [beq_iff_eq] at h);(try simp only [decide_eq_true_eq,decide_eq_false_iff_not] at*);simp_all [wk,aB,aK,bI,show aR 29=10 from rfl,bD,dF,dX,cE,dK];omega))
 have c3:= @jN ai
 exact (ei (d:= .aM [.aj (.fresh 1) 1 [.int .u8 15,.int .u8 (WO.wrap WO.u8 (128+WO.wrap WO.u8 cc)),.int .u8 (ai%256),.int .u8 (ai / 256%256),.int .u8 (ai / 65536%256),.int .u8 (ai / 16777216%256)],.int .i64 0]) ([.ret _ _ _ c0,tF,.ret _ _ _ c1]++Vc 9 tF++ [tT,tC (aL h2),.ret _ _ _ c3,.inl,.go 64,tT,tT,.get ([.aj .tight 1 [.int .u8 15,.int .u8 (WO.wrap WO.u8 (128+WO.wrap WO.u8 cc))],.aj .no 1 [.int .u8 (ai%256),.int .u8 (ai / 256%256),.int .u8 (ai / 65536%256),.int .u8 (ai / 16777216%256)]]) 0 (.aj .tight 1 [.int .u8 15,.int .u8 (WO.wrap WO.u8 (128+WO.wrap WO.u8 cc))]) rfl,.len 2 2147483648 (by decide),tT,tT,.get ([.aj .tight 1 [.int .u8 15,.int .u8 (WO.wrap WO.u8 (128+WO.wrap WO.u8 cc))],.aj .no 1 [.int .u8 (ai%256),.int .u8 (ai / 256%256),.int .u8 (ai / 65536%256),.int .u8 (ai / 16777216%256)]]) 1 (.aj .no 1 [.int .u8 (ai%256),.int .u8 (ai / 256%256),.int .u8 (ai / 65536%256),.int .u8 (ai / 16777216%256)]) rfl,.len 6 2147483648 (by decide),tF]) (by kernel_rfl)).to (by (subst_vars;(try simp only [bJ] at*);(try simp only [beq_iff_eq] at h);(try simp only [decide_eq_true_eq,decide_eq_false_iff_not] at*);simp_all [wk,aB,aK,bI,show aR 29=10 from rfl,bD,dF,dX,cE,dK];omega))
theorem tL:oL 30:=by
 intro w dst src base aa ai cc d0 d1 s0 s1 b0 b1 p0 p1 i0 i1 c0 c1 hm
 have c0:= @aE 30 w dst src base aa ai cc (by decide)
 rw [show (aA 30 w dst src base aa ai cc)=true from hm] at c0
 have c1:= @aN 30 (by decide)
 exact (ei (d:= .aM [.aj .tight 1 [.int .u8 195],.int .i64 0]) ([.ret _ _ _ c0,tF,.ret _ _ _ c1]++Vc 11 tF) (by kernel_rfl)).to (by (subst_vars;(try simp only [bJ] at*);(try simp only [beq_iff_eq] at h);(try simp only [decide_eq_true_eq,decide_eq_false_iff_not] at*);simp_all [wk,aB,aK,bI,show aR 30=11 from rfl,bD,dF,dX,cE,dK];done))
theorem tK:oL 31:=by
 intro w dst src base aa ai cc d0 d1 s0 s1 b0 b1 p0 p1 i0 i1 c0 c1 hm
 have c0:= @aE 31 w dst src base aa ai cc (by decide)
 rw [show (aA 31 w dst src base aa ai cc)=true from hm] at c0
 have c1:= @aN 31 (by decide)
 exact (ei (d:= .aM [.aj .tight 1 [.int .u8 15,.int .u8 5],.int .i64 0]) ([.ret _ _ _ c0,tF,.ret _ _ _ c1]++Vc 10 tF++ [tT]) (by kernel_rfl)).to (by (subst_vars;(try simp only [bJ] at*);(try simp only [beq_iff_eq] at h);(try simp only [decide_eq_true_eq,decide_eq_false_iff_not] at*);simp_all [wk,aB,aK,bI,show aR 31=11 from rfl,bD,dF,dX,cE,dK];done))
theorem AX (op:Int):0≤dV op∧dV op≤7:=by
 unfold dV
 repeat' split
 all_goals omega
theorem FZ {op w dst src base aa ai cc:Int} (h:aA op w dst src base aa ai cc=true):0≤cc∧cc≤15:=by
 have hs:=(fh h).2
 unfold aG at hs
 repeat' split at hs
 all_goals first|(cases hs;done)|(simp only [bb,Bool.and_eq_true,decide_eq_true_eq] at hs;omega)
theorem tI (op w dst src base aa ai cc:Int) (ho:op≤127) (hm:aA op w dst src base aa ai cc=true):
  aZ Tryz.prog 105 [xD op w dst src base aa ai cc] (.aM [.aj .no 1 (bD (bI op w dst src base aa ai cc)),.int .i64 0]):=by
 obtain ⟨⟨d0,d1,s0,s1,b0,b1,p0,p1,i0,i1⟩,hs⟩:=fh hm
 obtain ⟨c0,c1⟩:=FZ hm
 obtain ⟨n0,n1⟩:=AX op
 have RN:aR op≠0:=by
  intro e
  rw [e] at hs
  simp [aG] at hs
 obtain ⟨k,e⟩:=Hl RN
 have O3:decide (0≤op∧op≤31)=true:=by rw [e];simp;omega
 have hr:=nJ k
 rw [← e] at hr
 rcases hr with h|h|h|h|h|h|h|h|h|h|h
 ·exact yL _ _ _ _ _ _ _ _ ho d0 d1 s0 s1 b0 b1 p0 p1 i0 i1 c0 c1 n0 n1 (by rw [h];rfl) O3 hm
 ·have e2:op=16:=by
   rw [e] at h ⊢
   revert h
   exact (by decide+kernel:∀n:Fin 32,aR (n.val:Int)=2→(n.val:Int)=16) k
  subst e2
  exact tS _ _ _ _ _ _ _ d0 d1 s0 s1 b0 b1 p0 p1 i0 i1 c0 c1 hm
 ·exact yK _ _ _ _ _ _ _ _ ho d0 d1 s0 s1 b0 b1 p0 p1 i0 i1 c0 c1 n0 n1 (by rw [h];rfl) O3 (xQ (by rw [h] at hs;simp [aG] at hs;exact hs.1)) hm
 ·exact yJ _ _ _ _ _ _ _ _ ho d0 d1 s0 s1 b0 b1 p0 p1 i0 i1 c0 c1 n0 n1 (by rw [h];rfl) O3 hm
 ·exact yI _ _ _ _ _ _ _ _ ho d0 d1 s0 s1 b0 b1 p0 p1 i0 i1 c0 c1 n0 n1 (by rw [h];rfl) O3 hm
 ·have e2:op=25:=by rw [e] at h ⊢;exact EW k h
  subst e2
  exact tR _ _ _ _ _ _ _ d0 d1 s0 s1 b0 b1 p0 p1 i0 i1 c0 c1 hm
 ·have e2:op=26:=by rw [e] at h ⊢;exact EV k h
  subst e2
  exact tQ _ _ _ _ _ _ _ d0 d1 s0 s1 b0 b1 p0 p1 i0 i1 c0 c1 hm
 ·have e2:op=27:=by rw [e] at h ⊢;exact EU k h
  subst e2
  exact tP _ _ _ _ _ _ _ d0 d1 s0 s1 b0 b1 p0 p1 i0 i1 c0 c1 hm
 ·have e2:op=28:=by rw [e] at h ⊢;exact ET k h
  subst e2
  exact tN _ _ _ _ _ _ _ d0 d1 s0 s1 b0 b1 p0 p1 i0 i1 c0 c1 hm
 ·have e2:op=29:=by rw [e] at h ⊢;exact CF k h
  subst e2
  exact tM _ _ _ _ _ _ _ d0 d1 s0 s1 b0 b1 p0 p1 i0 i1 c0 c1 hm
 ·rcases CE k (by rw [e] at h;exact h) with e2|e2
  ·rw [← e] at e2;subst e2
   exact tL _ _ _ _ _ _ _ d0 d1 s0 s1 b0 b1 p0 p1 i0 i1 c0 c1 hm
  ·rw [← e] at e2;subst e2
   exact tK _ _ _ _ _ _ _ d0 d1 s0 s1 b0 b1 p0 p1 i0 i1 c0 c1 hm
theorem wz (op w dst src base aa ai cc:Int) (ho:op≤127) (hm:aA op w dst src base aa ai cc=false):aZ Tryz.prog 105 ([xD op w dst src base aa ai cc]) (.aM [.aj .no 1 [],.int .i64 2]):=by
 have c0:= @aE op w dst src base aa ai cc ho
 rw [show (aA op w dst src base aa ai cc)=false from hm] at c0
 exact (ei (d:= .aM [.aj .tight 0 [],.int .i64 2]) [.ret _ _ _ c0,tT] (by kernel_rfl)).to (by simp [wk,aB,aK])
theorem tJ (op w dst src base aa ai cc:Int) (ho:op≤127):aZ Tryz.prog 105 [xD op w dst src base aa ai cc] (.aM [.aj .no 1 (tU op w dst src base aa ai cc),.int .i64 (Em op w dst src base aa ai cc)]):=by
 unfold tU Em
 cases h:aA op w dst src base aa ai cc
 ·exact wz op w dst src base aa ai cc ho h
 ·exact tI op w dst src base aa ai cc ho h
theorem bX (op w dst src base aa ai cc:Int) (ho:op≤127):aZ Tryz.prog 73 ([xD op w dst src base aa ai cc]) (.int .i64 (dz op w dst src base aa ai cc)):=by
 have c0:= @tJ op w dst src base aa ai cc ho
 exact (Ni (d:= .int .i64 (↑(List.length (tU op w dst src base aa ai cc)):Int)) [.ret _ _ _ c0] (by kernel_rfl)).to (by simp [wk,dz])
theorem B2 (m:ab) (w dst src base aa ai cc ld:Int) (d0:0≤dst) (d1:dst≤15) (s0:0≤src) (s1:src≤15) (b0:0≤base) (b1:base≤15) (hm:aA 2 w dst src base aa ai cc=true) (hw:au w=true):aZ Tryz.prog 55 ([m.d,xD 2 w dst src base aa ai cc,.int .u64 ld]) (.aM [(ig (m.at (u64 (m.pc+u64 (dz 2 w dst src base aa ai cc)))) ⟨2,w,dst,src,base,aa,ai,cc⟩ ld).1.d,.int .i64 0]):=by
 have c0:= @aE 2 w dst src base aa ai cc (by decide)
 rw [show (aA 2 w dst src base aa ai cc)=true from hm] at c0
 have c1:= @bX 2 w dst src base aa ai cc (by decide)
 have c2:= @wG w (rg (ab.rl m) dst) (rg (ab.rl m) src) hw
 have c3:= @Aa w (rg (ab.rl m) dst) (rg (ab.rl m) src) hw
 have c4:= @aY 2 w dst src base aa ai cc (by decide)
 exact (jG (d:= .aM [(ig (m.at (u64 (m.pc+u64 (dz 2 w dst src base aa ai cc)))) ⟨2,w,dst,src,base,aa,ai,cc⟩ ld).1.d,.int .i64 0]) ([.ret _ _ _ c0,tF,.ret _ _ _ c1,tT,.get ([D.fn (Ve 74) [.ptr false 4 0] [],D.fn (Ve 75) [.ptr false 4 0] [],D.av,D.av,D.av,D.av,D.av,D.av,D.av,D.av,D.av,D.av,D.av,D.av,D.av,D.av,D.av,D.av,D.av,D.av,D.av,D.av,D.av,D.av,D.fn (Ve 76) [.ptr false 4 0] [],D.fn (Ve 77) [.ptr false 4 0] [],D.fn (Ve 78) [.ptr false 4 0] [],D.fn (Ve 79) [.ptr false 4 0] [],D.fn (Ve 80) [.ptr false 4 0] [],D.fn (Ve 81) [.ptr false 4 0] [],D.fn (Ve 82) [.ptr false 4 0] [],D.fn (Ve 83) [.ptr false 4 0] []]) 2 (D.av) rfl,tT,.inl,.inl,.bn [(4,.box (ab.cw m (dT m 2 w dst src base aa ai cc) (xT 2 w dst src base aa ai cc ld)))],.e9 ([(2,.int .i8 0),(9,.int .i8 0),(3,.int .i8 4),(10,.int .i8 4),(4,.int .i8 5),(11,.int .i8 5),(8,.int .i8 5),(15,.int .i8 5),(5,.int .i8 1),(12,.int .i8 1),(7,.int .i8 1),(14,.int .i8 1),(6,.int .i8 10),(13,.int .i8 10),(16,.int .i8 2),(17,.int .i8 6),(20,.int .i8 6),(18,.int .i8 7),(21,.int .i8 7),(19,.int .i8 12),(22,.int .i8 12),(23,.int .i8 8)]) 2 (some (.int .i8 0)) rfl,.cH _ true (dC d0 d1),.get _ _ _ (@bQ m dst ((fT m (dT m 2 w dst src base aa ai cc) (xT 2 w dst src base aa ai cc ld))) d0 d1),.inl]++Vc 24 tF++ [.cH _ true (dC s0 s1),.get _ _ _ (@bQ m src ((fT m (dT m 2 w dst src base aa ai cc) (xT 2 w dst src base aa ai cc ld))) s0 s1),.bn [(4,.box (ab.cw m (dT m 2 w dst src base aa ai cc) (xT 2 w dst src base aa ai cc ld)))],.ret _ _ _ c2,tF,tT,.ret _ _ _ c3,.ret _ _ _ c4,tC (nt (@gy 2 w dst src base aa ai cc hm d0 d1 (rfl:true=true))),.cH _ true (dC d0 d1),.fK _ _ _ _ (@cW m dst (gd 0 w (rg (ab.rl m) dst) (rg (ab.rl m) src)) ([.bool true,.bool (GA w (rg (ab.rl m) dst) (rg (ab.rl m) src)),.bool (aQ (u64 (rg (ab.rl m) dst+rg (ab.rl m) src)) w==0),.bool (gp (u64 (rg (ab.rl m) dst+rg (ab.rl m) src)) w),.bool (Gz w (rg (ab.rl m) dst) (rg (ab.rl m) src)),.int .u64 (dT m 2 w dst src base aa ai cc),.int .i8 2,.int .i8 w,.int .i8 dst,.int .i8 src,.int .i8 base,.int .i64 aa,.int .i64 ai,.int .i8 cc,.int .u64 ld]) d0 d1),tF]) (by kernel_rfl))
def oW:List D:= [D.fn (Ve 74) [.ptr false 4 0] [],D.fn (Ve 75) [.ptr false 4 0] [],D.av,D.av,D.av,D.av,D.av,D.av,D.av,D.av,D.av,D.av,D.av,D.av,D.av,D.av,D.av,D.av,D.av,D.av,D.av,D.av,D.av,D.av,D.fn (Ve 76) [.ptr false 4 0] [],D.fn (Ve 77) [.ptr false 4 0] [],D.fn (Ve 78) [.ptr false 4 0] [],D.fn (Ve 79) [.ptr false 4 0] [],D.fn (Ve 80) [.ptr false 4 0] [],D.fn (Ve 81) [.ptr false 4 0] [],D.fn (Ve 82) [.ptr false 4 0] [],D.fn (Ve 83) [.ptr false 4 0] []]
def oV:List (Int×D):= [((2:Int),.int .i8 0),((9:Int),.int .i8 0),((3:Int),.int .i8 4),((10:Int),.int .i8 4),((4:Int),.int .i8 5),((11:Int),.int .i8 5),((8:Int),.int .i8 5),((15:Int),.int .i8 5),((5:Int),.int .i8 1),((12:Int),.int .i8 1),((7:Int),.int .i8 1),((14:Int),.int .i8 1),((6:Int),.int .i8 10),((13:Int),.int .i8 10),((16:Int),.int .i8 2),((17:Int),.int .i8 6),((20:Int),.int .i8 6),((18:Int),.int .i8 7),((21:Int),.int .i8 7),((19:Int),.int .i8 12),((22:Int),.int .i8 12),((23:Int),.int .i8 8)]
def l8 (Pf:Int):Prop:= ∀(m:ab) (w dst src base aa ai cc ld:Int) (d0:0≤dst) (d1:dst≤15) (s0:0≤src) (s1:src≤15) (b0:0≤base) (b1:base≤15) (hm:aA Pf w dst src base aa ai cc=true) (hw:au w=true),aZ Tryz.prog 55 ([m.d,xD Pf w dst src base aa ai cc,.int .u64 ld]) (.aM [(ig (m.at (u64 (m.pc+u64 (dz Pf w dst src base aa ai cc)))) ⟨Pf,w,dst,src,base,aa,ai,cc⟩ ld).1.d,.int .i64 0])
theorem B1:l8 3:=by
 intro m w dst src base aa ai cc ld d0 d1 s0 s1 b0 b1 hm hw
 have c0:= @aE 3 w dst src base aa ai cc (by decide)
 rw [hm] at c0
 have c1:= @bX 3 w dst src base aa ai cc (by decide)
 have c2:= @wF w (rg (ab.rl m) dst) (rg (ab.rl m) src) hw
 have c3:= @iY w (gd 4 w (rg (ab.rl m) dst) (rg (ab.rl m) src)) hw
 have c4:= @aY 3 w dst src base aa ai cc (by decide)
 exact (jG (d:= .aM [(ig (m.at (u64 (m.pc+u64 (dz 3 w dst src base aa ai cc)))) ⟨3,w,dst,src,base,aa,ai,cc⟩ ld).1.d,.int .i64 0]) ([.ret _ _ _ c0,tF,.ret _ _ _ c1,tT,.get oW 3 (.av) rfl,tT,.inl,.inl,.bn [(4,.box (ab.cw m (dT m 3 w dst src base aa ai cc) (xT 3 w dst src base aa ai cc ld)))],.e9 oV 3 (some (.int .i8 4)) rfl,.cH _ true (dC d0 d1),.get _ _ _ (@bQ m dst ((fT m (dT m 3 w dst src base aa ai cc) (xT 3 w dst src base aa ai cc ld))) d0 d1),.inl]++Vc 24 tF++ [.cH _ true (dC s0 s1),.get _ _ _ (@bQ m src ((fT m (dT m 3 w dst src base aa ai cc) (xT 3 w dst src base aa ai cc ld))) s0 s1),.bn [(4,.box (ab.cw m (dT m 3 w dst src base aa ai cc) (xT 3 w dst src base aa ai cc ld)))],.ret _ _ _ c2,tF,tF,tF,tF,tT,tT,.ret _ _ _ c3,.ret _ _ _ c4,tC (nt (@gy 3 w dst src base aa ai cc hm d0 d1 (rfl:true=true))),.cH _ true (dC d0 d1),.fK _ _ _ _ (@cW m dst (gd 4 w (rg (ab.rl m) dst) (rg (ab.rl m) src)) ([.bool true,.bool false,.bool (aQ (gd 4 w (rg (ab.rl m) dst) (rg (ab.rl m) src)) w==0),.bool (gp (gd 4 w (rg (ab.rl m) dst) (rg (ab.rl m) src)) w),.bool false,.int .u64 (dT m 3 w dst src base aa ai cc),.int .i8 3,.int .i8 w,.int .i8 dst,.int .i8 src,.int .i8 base,.int .i64 aa,.int .i64 ai,.int .i8 cc,.int .u64 ld]) d0 d1),tF]) (by kernel_rfl))
theorem B0:l8 4:=by
 intro m w dst src base aa ai cc ld d0 d1 s0 s1 b0 b1 hm hw
 have c0:= @aE 4 w dst src base aa ai cc (by decide)
 rw [hm] at c0
 have c1:= @bX 4 w dst src base aa ai cc (by decide)
 have c2:= @mM w (rg (ab.rl m) dst) (rg (ab.rl m) src) hw
 have c3:= @iY w (gd 5 w (rg (ab.rl m) dst) (rg (ab.rl m) src)) hw
 have c4:= @aY 4 w dst src base aa ai cc (by decide)
 exact (jG (d:= .aM [(ig (m.at (u64 (m.pc+u64 (dz 4 w dst src base aa ai cc)))) ⟨4,w,dst,src,base,aa,ai,cc⟩ ld).1.d,.int .i64 0]) ([.ret _ _ _ c0,tF,.ret _ _ _ c1,tT,.get oW 4 (.av) rfl,tT,.inl,.inl,.bn [(4,.box (ab.cw m (dT m 4 w dst src base aa ai cc) (xT 4 w dst src base aa ai cc ld)))],.e9 oV 4 (some (.int .i8 5)) rfl,.cH _ true (dC d0 d1),.get _ _ _ (@bQ m dst ((fT m (dT m 4 w dst src base aa ai cc) (xT 4 w dst src base aa ai cc ld))) d0 d1),.inl]++Vc 24 tF++ [.cH _ true (dC s0 s1),.get _ _ _ (@bQ m src ((fT m (dT m 4 w dst src base aa ai cc) (xT 4 w dst src base aa ai cc ld))) s0 s1),.bn [(4,.box (ab.cw m (dT m 4 w dst src base aa ai cc) (xT 4 w dst src base aa ai cc ld)))],.ret _ _ _ c2,tF,tF,tF,tF,tF,tT,tT,.ret _ _ _ c3,.ret _ _ _ c4,tC (nt (@gy 4 w dst src base aa ai cc hm d0 d1 (rfl:true=true))),.cH _ true (dC d0 d1),.fK _ _ _ _ (@cW m dst (gd 5 w (rg (ab.rl m) dst) (rg (ab.rl m) src)) ([.bool true,.bool false,.bool (aQ (gd 5 w (rg (ab.rl m) dst) (rg (ab.rl m) src)) w==0),.bool (gp (gd 5 w (rg (ab.rl m) dst) (rg (ab.rl m) src)) w),.bool false,.int .u64 (dT m 4 w dst src base aa ai cc),.int .i8 4,.int .i8 w,.int .i8 dst,.int .i8 src,.int .i8 base,.int .i64 aa,.int .i64 ai,.int .i8 cc,.int .u64 ld]) d0 d1),tF]) (by kernel_rfl))
theorem BZ:l8 5:=by
 intro m w dst src base aa ai cc ld d0 d1 s0 s1 b0 b1 hm hw
 have c0:= @aE 5 w dst src base aa ai cc (by decide)
 rw [hm] at c0
 have c1:= @bX 5 w dst src base aa ai cc (by decide)
 have c2:= @mN w (rg (ab.rl m) dst) (rg (ab.rl m) src) hw
 have c3:= @mF w (rg (ab.rl m) dst) (rg (ab.rl m) src) hw
 have c4:= @aY 5 w dst src base aa ai cc (by decide)
 exact (jG (d:= .aM [(ig (m.at (u64 (m.pc+u64 (dz 5 w dst src base aa ai cc)))) ⟨5,w,dst,src,base,aa,ai,cc⟩ ld).1.d,.int .i64 0]) ([.ret _ _ _ c0,tF,.ret _ _ _ c1,tT,.get oW 5 (.av) rfl,tT,.inl,.inl,.bn [(4,.box (ab.cw m (dT m 5 w dst src base aa ai cc) (xT 5 w dst src base aa ai cc ld)))],.e9 oV 5 (some (.int .i8 1)) rfl,.cH _ true (dC d0 d1),.get _ _ _ (@bQ m dst ((fT m (dT m 5 w dst src base aa ai cc) (xT 5 w dst src base aa ai cc ld))) d0 d1),.inl]++Vc 24 tF++ [.cH _ true (dC s0 s1),.get _ _ _ (@bQ m src ((fT m (dT m 5 w dst src base aa ai cc) (xT 5 w dst src base aa ai cc ld))) s0 s1),.bn [(4,.box (ab.cw m (dT m 5 w dst src base aa ai cc) (xT 5 w dst src base aa ai cc ld)))],.ret _ _ _ c2,tF,tF,tT,.ret _ _ _ c3,.ret _ _ _ c4,tC (nt (@gy 5 w dst src base aa ai cc hm d0 d1 (rfl:true=true))),.cH _ true (dC d0 d1),.fK _ _ _ _ (@cW m dst (gd 1 w (rg (ab.rl m) dst) (rg (ab.rl m) src)) ([.bool true,.bool (Aw w (rg (ab.rl m) dst) (rg (ab.rl m) src)),.bool (aQ (u64 (rg (ab.rl m) dst - rg (ab.rl m) src)) w==0),.bool (gp (u64 (rg (ab.rl m) dst - rg (ab.rl m) src)) w),.bool (Au w (rg (ab.rl m) dst) (rg (ab.rl m) src)),.int .u64 (dT m 5 w dst src base aa ai cc),.int .i8 5,.int .i8 w,.int .i8 dst,.int .i8 src,.int .i8 base,.int .i64 aa,.int .i64 ai,.int .i8 cc,.int .u64 ld]) d0 d1),tF]) (by kernel_rfl))
theorem BX:l8 6:=by
 intro m w dst src base aa ai cc ld d0 d1 s0 s1 b0 b1 hm hw
 have c0:= @aE 6 w dst src base aa ai cc (by decide)
 rw [hm] at c0
 have c1:= @bX 6 w dst src base aa ai cc (by decide)
 have c2:= @rO w (rg (ab.rl m) dst) (rg (ab.rl m) src) hw
 have c3:= @iY w (gd 10 w (rg (ab.rl m) dst) (rg (ab.rl m) src)) hw
 have c4:= @aY 6 w dst src base aa ai cc (by decide)
 exact (jG (d:= .aM [(ig (m.at (u64 (m.pc+u64 (dz 6 w dst src base aa ai cc)))) ⟨6,w,dst,src,base,aa,ai,cc⟩ ld).1.d,.int .i64 0]) ([.ret _ _ _ c0,tF,.ret _ _ _ c1,tT,.get oW 6 (.av) rfl,tT,.inl,.inl,.bn [(4,.box (ab.cw m (dT m 6 w dst src base aa ai cc) (xT 6 w dst src base aa ai cc ld)))],.e9 oV 6 (some (.int .i8 10)) rfl,.cH _ true (dC d0 d1),.get _ _ _ (@bQ m dst ((fT m (dT m 6 w dst src base aa ai cc) (xT 6 w dst src base aa ai cc ld))) d0 d1),.inl]++Vc 24 tF++ [.cH _ true (dC s0 s1),.get _ _ _ (@bQ m src ((fT m (dT m 6 w dst src base aa ai cc) (xT 6 w dst src base aa ai cc ld))) s0 s1),.bn [(4,.box (ab.cw m (dT m 6 w dst src base aa ai cc) (xT 6 w dst src base aa ai cc ld)))],.ret _ _ _ c2,tF,tF,tF,tF,tF,tF,tT,.ret _ _ _ c3,.ret _ _ _ c4,tC (nt (@gy 6 w dst src base aa ai cc hm d0 d1 (rfl:true=true))),.cH _ true (dC d0 d1),.fK _ _ _ _ (@cW m dst (gd 10 w (rg (ab.rl m) dst) (rg (ab.rl m) src)) ([.bool true,.bool false,.bool (aQ (gd 10 w (rg (ab.rl m) dst) (rg (ab.rl m) src)) w==0),.bool (gp (gd 10 w (rg (ab.rl m) dst) (rg (ab.rl m) src)) w),.bool false,.int .u64 (dT m 6 w dst src base aa ai cc),.int .i8 6,.int .i8 w,.int .i8 dst,.int .i8 src,.int .i8 base,.int .i64 aa,.int .i64 ai,.int .i8 cc,.int .u64 ld]) d0 d1),tF]) (by kernel_rfl))
theorem BW:l8 7:=by
 intro m w dst src base aa ai cc ld d0 d1 s0 s1 b0 b1 hm hw
 have c0:= @aE 7 w dst src base aa ai cc (by decide)
 rw [hm] at c0
 have c1:= @bX 7 w dst src base aa ai cc (by decide)
 have c2:= @mN w (rg (ab.rl m) dst) (rg (ab.rl m) src) hw
 have c3:= @mF w (rg (ab.rl m) dst) (rg (ab.rl m) src) hw
 have c4:= @aY 7 w dst src base aa ai cc (by decide)
 exact (jG (d:= .aM [(ig (m.at (u64 (m.pc+u64 (dz 7 w dst src base aa ai cc)))) ⟨7,w,dst,src,base,aa,ai,cc⟩ ld).1.d,.int .i64 0]) ([.ret _ _ _ c0,tF,.ret _ _ _ c1,tT,.get oW 7 (.av) rfl,tT,.inl,.inl,.bn [(4,.box (ab.cw m (dT m 7 w dst src base aa ai cc) (xT 7 w dst src base aa ai cc ld)))],.e9 oV 7 (some (.int .i8 1)) rfl,.cH _ true (dC d0 d1),.get _ _ _ (@bQ m dst ((fT m (dT m 7 w dst src base aa ai cc) (xT 7 w dst src base aa ai cc ld))) d0 d1),.inl]++Vc 24 tF++ [.cH _ true (dC s0 s1),.get _ _ _ (@bQ m src ((fT m (dT m 7 w dst src base aa ai cc) (xT 7 w dst src base aa ai cc ld))) s0 s1),.bn [(4,.box (ab.cw m (dT m 7 w dst src base aa ai cc) (xT 7 w dst src base aa ai cc ld)))],.ret _ _ _ c2,tF,tF,tT,.ret _ _ _ c3,.ret _ _ _ c4,tC (nt (cu 0 true (eq_of_beq (@EH 7 w dst src base aa ai cc (rfl:false=false))))),tF]) (by kernel_rfl))
theorem BV:l8 8:=by
 intro m w dst src base aa ai cc ld d0 d1 s0 s1 b0 b1 hm hw
 have c0:= @aE 8 w dst src base aa ai cc (by decide)
 rw [hm] at c0
 have c1:= @bX 8 w dst src base aa ai cc (by decide)
 have c2:= @mM w (rg (ab.rl m) dst) (rg (ab.rl m) src) hw
 have c3:= @iY w (gd 5 w (rg (ab.rl m) dst) (rg (ab.rl m) src)) hw
 have c4:= @aY 8 w dst src base aa ai cc (by decide)
 exact (jG (d:= .aM [(ig (m.at (u64 (m.pc+u64 (dz 8 w dst src base aa ai cc)))) ⟨8,w,dst,src,base,aa,ai,cc⟩ ld).1.d,.int .i64 0]) ([.ret _ _ _ c0,tF,.ret _ _ _ c1,tT,.get oW 8 (.av) rfl,tT,.inl,.inl,.bn [(4,.box (ab.cw m (dT m 8 w dst src base aa ai cc) (xT 8 w dst src base aa ai cc ld)))],.e9 oV 8 (some (.int .i8 5)) rfl,.cH _ true (dC d0 d1),.get _ _ _ (@bQ m dst ((fT m (dT m 8 w dst src base aa ai cc) (xT 8 w dst src base aa ai cc ld))) d0 d1),.inl]++Vc 24 tF++ [.cH _ true (dC s0 s1),.get _ _ _ (@bQ m src ((fT m (dT m 8 w dst src base aa ai cc) (xT 8 w dst src base aa ai cc ld))) s0 s1),.bn [(4,.box (ab.cw m (dT m 8 w dst src base aa ai cc) (xT 8 w dst src base aa ai cc ld)))],.ret _ _ _ c2,tF,tF,tF,tF,tF,tT,tT,.ret _ _ _ c3,.ret _ _ _ c4,tC (nt (cu 0 true (eq_of_beq (@EH 8 w dst src base aa ai cc (rfl:false=false))))),tF]) (by kernel_rfl))
theorem yD:l8 12:=by
 intro m w dst src base aa ai cc ld d0 d1 s0 s1 b0 b1 hm hw
 have c0:= @aE 12 w dst src base aa ai cc (by decide)
 rw [hm] at c0
 have c1:= @bX 12 w dst src base aa ai cc (by decide)
 have c2:= @mN w (rg (ab.rl m) dst) (WO.wrap WO.u64 ai) hw
 have c3:= @mF w (rg (ab.rl m) dst) (WO.wrap WO.u64 ai) hw
 have c4:= @aY 12 w dst src base aa ai cc (by decide)
 exact (jG (d:= .aM [(ig (m.at (u64 (m.pc+u64 (dz 12 w dst src base aa ai cc)))) ⟨12,w,dst,src,base,aa,ai,cc⟩ ld).1.d,.int .i64 0]) ([.ret _ _ _ c0,tF,.ret _ _ _ c1,tT,.get oW 12 (.av) rfl,tT,.inl,.inl,.bn [(4,.box (ab.cw m (dT m 12 w dst src base aa ai cc) (xT 12 w dst src base aa ai cc ld)))],.e9 oV 12 (some (.int .i8 1)) rfl,.cH _ true (dC d0 d1),.get _ _ _ (@bQ m dst ((fT m (dT m 12 w dst src base aa ai cc) (xT 12 w dst src base aa ai cc ld))) d0 d1),.inl]++Vc 8 tF++Vc 9 tT++ [.bn [(4,.box (ab.cw m (dT m 12 w dst src base aa ai cc) (xT 12 w dst src base aa ai cc ld)))],.ret _ _ _ c2,tF,tF,tT,.ret _ _ _ c3,.ret _ _ _ c4,tC (nt (@gy 12 w dst src base aa ai cc hm d0 d1 (rfl:true=true))),.cH _ true (dC d0 d1),.fK _ _ _ _ (@cW m dst (gd 1 w (rg (ab.rl m) dst) (WO.wrap WO.u64 ai)) ([.bool true,.bool (Aw w (rg (ab.rl m) dst) (WO.wrap WO.u64 ai)),.bool (aQ (u64 (rg (ab.rl m) dst - WO.wrap WO.u64 ai)) w==0),.bool (gp (u64 (rg (ab.rl m) dst - WO.wrap WO.u64 ai)) w),.bool (Au w (rg (ab.rl m) dst) (WO.wrap WO.u64 ai)),.int .u64 (dT m 12 w dst src base aa ai cc),.int .i8 12,.int .i8 w,.int .i8 dst,.int .i8 src,.int .i8 base,.int .i64 aa,.int .i64 ai,.int .i8 cc,.int .u64 ld]) d0 d1),tF]) (by kernel_rfl))
def oU:List D:= [D.fn (Ve 74) [.ptr false 4 0] [],D.fn (Ve 75) [.ptr false 4 0] [],D.av,D.av,D.av,D.av,D.av,D.av,D.av,D.av,D.av,D.av,D.av,D.av,D.av,D.av,D.av,D.av,D.av,D.av,D.av,D.av,D.av,D.av,D.fn (Ve 76) [.ptr false 4 0] [],D.fn (Ve 77) [.ptr false 4 0] [],D.fn (Ve 78) [.ptr false 4 0] [],D.fn (Ve 79) [.ptr false 4 0] [],D.fn (Ve 80) [.ptr false 4 0] [],D.fn (Ve 81) [.ptr false 4 0] [],D.fn (Ve 82) [.ptr false 4 0] [],D.fn (Ve 83) [.ptr false 4 0] []]
def oT:List (Int×D):= [((2:Int),.int .i8 0),((9:Int),.int .i8 0),((3:Int),.int .i8 4),((10:Int),.int .i8 4),((4:Int),.int .i8 5),((11:Int),.int .i8 5),((8:Int),.int .i8 5),((15:Int),.int .i8 5),((5:Int),.int .i8 1),((12:Int),.int .i8 1),((7:Int),.int .i8 1),((14:Int),.int .i8 1),((6:Int),.int .i8 10),((13:Int),.int .i8 10),((16:Int),.int .i8 2),((17:Int),.int .i8 6),((20:Int),.int .i8 6),((18:Int),.int .i8 7),((21:Int),.int .i8 7),((19:Int),.int .i8 12),((22:Int),.int .i8 12),((23:Int),.int .i8 8)]
def l7 (Pf:Int):Prop:= ∀(m:ab) (w dst src base aa ai cc ld:Int) (d0:0≤dst) (d1:dst≤15) (s0:0≤src) (s1:src≤15) (b0:0≤base) (b1:base≤15) (hm:aA Pf w dst src base aa ai cc=true) (hw:au w=true),aZ Tryz.prog 55 ([m.d,xD Pf w dst src base aa ai cc,.int .u64 ld]) (.aM [(ig (m.at (u64 (m.pc+u64 (dz Pf w dst src base aa ai cc)))) ⟨Pf,w,dst,src,base,aa,ai,cc⟩ ld).1.d,.int .i64 0])
theorem yy:l7 17:=by
 intro m w dst src base aa ai cc ld d0 d1 s0 s1 b0 b1 hm hw
 have c0:= @aE 17 w dst src base aa ai cc (by decide)
 rw [hm] at c0
 have c1:= @bX 17 w dst src base aa ai cc (by decide)
 have c2:= @wE w (rg (ab.rl m) dst) (WO.wrap WO.u64 ai) hw
 have c3:= @cg
 have c4:= @aY 17 w dst src base aa ai cc (by decide)
 exact (jG (d:= .aM [(ig (m.at (u64 (m.pc+u64 (dz 17 w dst src base aa ai cc)))) ⟨17,w,dst,src,base,aa,ai,cc⟩ ld).1.d,.int .i64 0]) ([.ret _ _ _ c0,tF,.ret _ _ _ c1,tT,.get oU 17 (.av) rfl,tT,.inl,.inl,.bn [(4,.box (ab.cw m (dT m 17 w dst src base aa ai cc) (xT 17 w dst src base aa ai cc ld)))],.e9 oT 17 (some (.int .i8 6)) rfl,.cH _ true (dC d0 d1),.get _ _ _ (@bQ m dst ((fT m (dT m 17 w dst src base aa ai cc) (xT 17 w dst src base aa ai cc ld))) d0 d1),.inl]++Vc 8 tF++ [tT,tT,tT,tT,tT,tT,tT,tF]++Vc 8 tT++ [.bn [(4,.box (ab.cw m (dT m 17 w dst src base aa ai cc) (xT 17 w dst src base aa ai cc ld)))],.ret _ _ _ c2,tF,tF,tF,tF,tF,tF,tF,.ret _ _ _ c3,.ret _ _ _ c4,tC (nt (@gy 17 w dst src base aa ai cc hm d0 d1 (rfl:true=true))),.cH _ true (dC d0 d1),.fK _ _ _ _ (@cW m dst (gd 6 w (rg (ab.rl m) dst) (WO.wrap WO.u64 ai)) ([.bool false,.bool false,.bool false,.bool false,.bool false,.int .u64 (dT m 17 w dst src base aa ai cc),.int .i8 17,.int .i8 w,.int .i8 dst,.int .i8 src,.int .i8 base,.int .i64 aa,.int .i64 ai,.int .i8 cc,.int .u64 ld]) d0 d1),tF]) (by kernel_rfl))
theorem yx:l7 18:=by
 intro m w dst src base aa ai cc ld d0 d1 s0 s1 b0 b1 hm hw
 have c0:= @aE 18 w dst src base aa ai cc (by decide)
 rw [hm] at c0
 have c1:= @bX 18 w dst src base aa ai cc (by decide)
 have c2:= @wB w (rg (ab.rl m) dst) (WO.wrap WO.u64 ai) hw
 have c3:= @cg
 have c4:= @aY 18 w dst src base aa ai cc (by decide)
 exact (jG (d:= .aM [(ig (m.at (u64 (m.pc+u64 (dz 18 w dst src base aa ai cc)))) ⟨18,w,dst,src,base,aa,ai,cc⟩ ld).1.d,.int .i64 0]) ([.ret _ _ _ c0,tF,.ret _ _ _ c1,tT,.get oU 18 (.av) rfl,tT,.inl,.inl,.bn [(4,.box (ab.cw m (dT m 18 w dst src base aa ai cc) (xT 18 w dst src base aa ai cc ld)))],.e9 oT 18 (some (.int .i8 7)) rfl,.cH _ true (dC d0 d1),.get _ _ _ (@bQ m dst ((fT m (dT m 18 w dst src base aa ai cc) (xT 18 w dst src base aa ai cc ld))) d0 d1),.inl]++Vc 8 tF++ [tT,tT,tT,tT,tT,tT,tT,tF]++Vc 8 tT++ [.bn [(4,.box (ab.cw m (dT m 18 w dst src base aa ai cc) (xT 18 w dst src base aa ai cc ld)))],.ret _ _ _ c2,tF,tF,tF,tF,tF,tF,tF,.ret _ _ _ c3,.ret _ _ _ c4,tC (nt (@gy 18 w dst src base aa ai cc hm d0 d1 (rfl:true=true))),.cH _ true (dC d0 d1),.fK _ _ _ _ (@cW m dst (gd 7 w (rg (ab.rl m) dst) (WO.wrap WO.u64 ai)) ([.bool false,.bool false,.bool false,.bool false,.bool false,.int .u64 (dT m 18 w dst src base aa ai cc),.int .i8 18,.int .i8 w,.int .i8 dst,.int .i8 src,.int .i8 base,.int .i64 aa,.int .i64 ai,.int .i8 cc,.int .u64 ld]) d0 d1),tF]) (by kernel_rfl))
theorem yw:l7 19:=by
 intro m w dst src base aa ai cc ld d0 d1 s0 s1 b0 b1 hm hw
 have c0:= @aE 19 w dst src base aa ai cc (by decide)
 rw [hm] at c0
 have c1:= @bX 19 w dst src base aa ai cc (by decide)
 have c2:= @rN w (rg (ab.rl m) dst) (WO.wrap WO.u64 ai) hw
 have c3:= @cg
 have c4:= @aY 19 w dst src base aa ai cc (by decide)
 exact (jG (d:= .aM [(ig (m.at (u64 (m.pc+u64 (dz 19 w dst src base aa ai cc)))) ⟨19,w,dst,src,base,aa,ai,cc⟩ ld).1.d,.int .i64 0]) ([.ret _ _ _ c0,tF,.ret _ _ _ c1,tT,.get oU 19 (.av) rfl,tT,.inl,.inl,.bn [(4,.box (ab.cw m (dT m 19 w dst src base aa ai cc) (xT 19 w dst src base aa ai cc ld)))],.e9 oT 19 (some (.int .i8 12)) rfl,.cH _ true (dC d0 d1),.get _ _ _ (@bQ m dst ((fT m (dT m 19 w dst src base aa ai cc) (xT 19 w dst src base aa ai cc ld))) d0 d1),.inl]++Vc 8 tF++ [tT,tT,tT,tT,tT,tT,tT,tF]++Vc 8 tT++ [.bn [(4,.box (ab.cw m (dT m 19 w dst src base aa ai cc) (xT 19 w dst src base aa ai cc ld)))],.ret _ _ _ c2,tF,tF,tF,tF,tF,tF,tF,.ret _ _ _ c3,.ret _ _ _ c4,tC (nt (@gy 19 w dst src base aa ai cc hm d0 d1 (rfl:true=true))),.cH _ true (dC d0 d1),.fK _ _ _ _ (@cW m dst (gd 12 w (rg (ab.rl m) dst) (WO.wrap WO.u64 ai)) ([.bool false,.bool false,.bool false,.bool false,.bool false,.int .u64 (dT m 19 w dst src base aa ai cc),.int .i8 19,.int .i8 w,.int .i8 dst,.int .i8 src,.int .i8 base,.int .i64 aa,.int .i64 ai,.int .i8 cc,.int .u64 ld]) d0 d1),tF]) (by kernel_rfl))
theorem yv:l7 20:=by
 intro m w dst src base aa ai cc ld d0 d1 s0 s1 b0 b1 hm hw
 have c0:= @aE 20 w dst src base aa ai cc (by decide)
 rw [hm] at c0
 have c1:= @bX 20 w dst src base aa ai cc (by decide)
 have c2:= @wE w (rg (ab.rl m) dst) (ab.q1 m) hw
 have c3:= @cg
 have c4:= @aY 20 w dst src base aa ai cc (by decide)
 exact (jG (d:= .aM [(ig (m.at (u64 (m.pc+u64 (dz 20 w dst src base aa ai cc)))) ⟨20,w,dst,src,base,aa,ai,cc⟩ ld).1.d,.int .i64 0]) ([.ret _ _ _ c0,tF,.ret _ _ _ c1,tT,.get oU 20 (.av) rfl,tT,.inl,.inl,.bn [(4,.box (ab.cw m (dT m 20 w dst src base aa ai cc) (xT 20 w dst src base aa ai cc ld)))],.e9 oT 20 (some (.int .i8 6)) rfl,.cH _ true (dC d0 d1),.get _ _ _ (@bQ m dst ((fT m (dT m 20 w dst src base aa ai cc) (xT 20 w dst src base aa ai cc ld))) d0 d1),.inl]++Vc 8 tT++ [.bn [(4,.box (ab.cw m (dT m 20 w dst src base aa ai cc) (xT 20 w dst src base aa ai cc ld)))],.ret _ _ _ c2,tF,tF,tF,tF,tF,tF,tF,.ret _ _ _ c3,.ret _ _ _ c4,tC (nt (@gy 20 w dst src base aa ai cc hm d0 d1 (rfl:true=true))),.cH _ true (dC d0 d1),.fK _ _ _ _ (@cW m dst (gd 6 w (rg (ab.rl m) dst) (ab.q1 m)) ([.bool false,.bool false,.bool false,.bool false,.bool false,.int .u64 (dT m 20 w dst src base aa ai cc),.int .i8 20,.int .i8 w,.int .i8 dst,.int .i8 src,.int .i8 base,.int .i64 aa,.int .i64 ai,.int .i8 cc,.int .u64 ld]) d0 d1),tF]) (by kernel_rfl))
theorem yu:l7 21:=by
 intro m w dst src base aa ai cc ld d0 d1 s0 s1 b0 b1 hm hw
 have c0:= @aE 21 w dst src base aa ai cc (by decide)
 rw [hm] at c0
 have c1:= @bX 21 w dst src base aa ai cc (by decide)
 have c2:= @wB w (rg (ab.rl m) dst) (ab.q1 m) hw
 have c3:= @cg
 have c4:= @aY 21 w dst src base aa ai cc (by decide)
 exact (jG (d:= .aM [(ig (m.at (u64 (m.pc+u64 (dz 21 w dst src base aa ai cc)))) ⟨21,w,dst,src,base,aa,ai,cc⟩ ld).1.d,.int .i64 0]) ([.ret _ _ _ c0,tF,.ret _ _ _ c1,tT,.get oU 21 (.av) rfl,tT,.inl,.inl,.bn [(4,.box (ab.cw m (dT m 21 w dst src base aa ai cc) (xT 21 w dst src base aa ai cc ld)))],.e9 oT 21 (some (.int .i8 7)) rfl,.cH _ true (dC d0 d1),.get _ _ _ (@bQ m dst ((fT m (dT m 21 w dst src base aa ai cc) (xT 21 w dst src base aa ai cc ld))) d0 d1),.inl]++Vc 8 tT++ [.bn [(4,.box (ab.cw m (dT m 21 w dst src base aa ai cc) (xT 21 w dst src base aa ai cc ld)))],.ret _ _ _ c2,tF,tF,tF,tF,tF,tF,tF,.ret _ _ _ c3,.ret _ _ _ c4,tC (nt (@gy 21 w dst src base aa ai cc hm d0 d1 (rfl:true=true))),.cH _ true (dC d0 d1),.fK _ _ _ _ (@cW m dst (gd 7 w (rg (ab.rl m) dst) (ab.q1 m)) ([.bool false,.bool false,.bool false,.bool false,.bool false,.int .u64 (dT m 21 w dst src base aa ai cc),.int .i8 21,.int .i8 w,.int .i8 dst,.int .i8 src,.int .i8 base,.int .i64 aa,.int .i64 ai,.int .i8 cc,.int .u64 ld]) d0 d1),tF]) (by kernel_rfl))
theorem yt:l7 22:=by
 intro m w dst src base aa ai cc ld d0 d1 s0 s1 b0 b1 hm hw
 have c0:= @aE 22 w dst src base aa ai cc (by decide)
 rw [hm] at c0
 have c1:= @bX 22 w dst src base aa ai cc (by decide)
 have c2:= @rN w (rg (ab.rl m) dst) (ab.q1 m) hw
 have c3:= @cg
 have c4:= @aY 22 w dst src base aa ai cc (by decide)
 exact (jG (d:= .aM [(ig (m.at (u64 (m.pc+u64 (dz 22 w dst src base aa ai cc)))) ⟨22,w,dst,src,base,aa,ai,cc⟩ ld).1.d,.int .i64 0]) ([.ret _ _ _ c0,tF,.ret _ _ _ c1,tT,.get oU 22 (.av) rfl,tT,.inl,.inl,.bn [(4,.box (ab.cw m (dT m 22 w dst src base aa ai cc) (xT 22 w dst src base aa ai cc ld)))],.e9 oT 22 (some (.int .i8 12)) rfl,.cH _ true (dC d0 d1),.get _ _ _ (@bQ m dst ((fT m (dT m 22 w dst src base aa ai cc) (xT 22 w dst src base aa ai cc ld))) d0 d1),.inl]++Vc 8 tT++ [.bn [(4,.box (ab.cw m (dT m 22 w dst src base aa ai cc) (xT 22 w dst src base aa ai cc ld)))],.ret _ _ _ c2,tF,tF,tF,tF,tF,tF,tF,.ret _ _ _ c3,.ret _ _ _ c4,tC (nt (@gy 22 w dst src base aa ai cc hm d0 d1 (rfl:true=true))),.cH _ true (dC d0 d1),.fK _ _ _ _ (@cW m dst (gd 12 w (rg (ab.rl m) dst) (ab.q1 m)) ([.bool false,.bool false,.bool false,.bool false,.bool false,.int .u64 (dT m 22 w dst src base aa ai cc),.int .i8 22,.int .i8 w,.int .i8 dst,.int .i8 src,.int .i8 base,.int .i64 aa,.int .i64 ai,.int .i8 cc,.int .u64 ld]) d0 d1),tF]) (by kernel_rfl))
theorem yr:l7 23:=by
 intro m w dst src base aa ai cc ld d0 d1 s0 s1 b0 b1 hm hw
 have c0:= @aE 23 w dst src base aa ai cc (by decide)
 rw [hm] at c0
 have c1:= @bX 23 w dst src base aa ai cc (by decide)
 have c2:= @Es w (rg (ab.rl m) dst) (rg (ab.rl m) src) hw
 have c3:= @mF w 0 (rg (ab.rl m) dst) hw
 have c4:= @aY 23 w dst src base aa ai cc (by decide)
 exact (jG (d:= .aM [(ig (m.at (u64 (m.pc+u64 (dz 23 w dst src base aa ai cc)))) ⟨23,w,dst,src,base,aa,ai,cc⟩ ld).1.d,.int .i64 0]) ([.ret _ _ _ c0,tF,.ret _ _ _ c1,tT,.get oU 23 (.av) rfl,tT,.inl,.inl,.bn [(4,.box (ab.cw m (dT m 23 w dst src base aa ai cc) (xT 23 w dst src base aa ai cc ld)))],.e9 oT 23 (some (.int .i8 8)) rfl,.cH _ true (dC d0 d1),.get _ _ _ (@bQ m dst ((fT m (dT m 23 w dst src base aa ai cc) (xT 23 w dst src base aa ai cc ld))) d0 d1),.inl,tT,tT,tT,tT,tT,tT,tT,tF,tT,tT,tT,tT,tT,tT,tT,tF,tT,tT,tT,tT,tT,tT,tT,tF,.cH _ true (dC s0 s1),.get _ _ _ (@bQ m src ((fT m (dT m 23 w dst src base aa ai cc) (xT 23 w dst src base aa ai cc ld))) s0 s1),.bn [(4,.box (ab.cw m (dT m 23 w dst src base aa ai cc) (xT 23 w dst src base aa ai cc ld)))],.ret _ _ _ c2,tF,tF,tF,tT,.ret _ _ _ c3,.ret _ _ _ c4,tC (nt (@gy 23 w dst src base aa ai cc hm d0 d1 (rfl:true=true))),.cH _ true (dC d0 d1),.fK _ _ _ _ (@cW m dst (gd 8 w (rg (ab.rl m) dst) (rg (ab.rl m) src)) ([.bool true,.bool (Aw w 0 (rg (ab.rl m) dst)),.bool (aQ (u64 (0 - rg (ab.rl m) dst)) w==0),.bool (gp (u64 (0 - rg (ab.rl m) dst)) w),.bool (Au w 0 (rg (ab.rl m) dst)),.int .u64 (dT m 23 w dst src base aa ai cc),.int .i8 23,.int .i8 w,.int .i8 dst,.int .i8 src,.int .i8 base,.int .i64 aa,.int .i64 ai,.int .i8 cc,.int .u64 ld]) d0 d1)]++ [tF]) (by kernel_rfl))
def oS:List D:= [D.fn (Ve 74) [.ptr false 4 0] [],D.fn (Ve 75) [.ptr false 4 0] [],D.av,D.av,D.av,D.av,D.av,D.av,D.av,D.av,D.av,D.av,D.av,D.av,D.av,D.av,D.av,D.av,D.av,D.av,D.av,D.av,D.av,D.av,D.fn (Ve 76) [.ptr false 4 0] [],D.fn (Ve 77) [.ptr false 4 0] [],D.fn (Ve 78) [.ptr false 4 0] [],D.fn (Ve 79) [.ptr false 4 0] [],D.fn (Ve 80) [.ptr false 4 0] [],D.fn (Ve 81) [.ptr false 4 0] [],D.fn (Ve 82) [.ptr false 4 0] [],D.fn (Ve 83) [.ptr false 4 0] []]
def l6 (Pf:Int):Prop:= ∀(m:ab) (w dst src base aa ai cc ld:Int) (d0:0≤dst) (d1:dst≤15) (s0:0≤src) (s1:src≤15) (b0:0≤base) (b1:base≤15) (hm:aA Pf w dst src base aa ai cc=true),aZ Tryz.prog 55 ([m.d,xD Pf w dst src base aa ai cc,.int .u64 ld]) (.aM [(ig (m.at (u64 (m.pc+u64 (dz Pf w dst src base aa ai cc)))) ⟨Pf,w,dst,src,base,aa,ai,cc⟩ ld).1.d,.int .i64 0])
theorem B4:l6 0:=by
 intro m w dst src base aa ai cc ld d0 d1 s0 s1 b0 b1 hm
 have c0:= @aE 0 w dst src base aa ai cc (by decide)
 rw [show (aA 0 w dst src base aa ai cc)=true from hm] at c0
 have c1:= @bX 0 w dst src base aa ai cc (by decide)
 have c2:= @bS (rg (ab.rl m) src) w
 exact (jG (d:= .aM [(ig (m.at (u64 (m.pc+u64 (dz 0 w dst src base aa ai cc)))) ⟨0,w,dst,src,base,aa,ai,cc⟩ ld).1.d,.int .i64 0]) [.ret _ _ _ c0,tF,.ret _ _ _ c1,tT,.get oS 0 (D.fn (Ve 74) [.ptr false 4 0] []) rfl,tF,.inl,.cH _ true (dC s0 s1),.get _ _ _ (@bQ m src ((fT m (dT m 0 w dst src base aa ai cc) (xT 0 w dst src base aa ai cc ld))) s0 s1),.inl,.ret _ _ _ c2,.cH _ true (dC d0 d1),.fK _ _ _ _ (@cW m dst (aQ (rg (ab.rl m) src) w) ((fT m (dT m 0 w dst src base aa ai cc) (xT 0 w dst src base aa ai cc ld))) d0 d1),tF] (by kernel_rfl))
theorem B3:l6 1:=by
 intro m w dst src base aa ai cc ld d0 d1 s0 s1 b0 b1 hm
 have c0:= @aE 1 w dst src base aa ai cc (by decide)
 rw [show (aA 1 w dst src base aa ai cc)=true from hm] at c0
 have c1:= @bX 1 w dst src base aa ai cc (by decide)
 have c2:= @bS (WO.wrap WO.u64 ai) w
 exact (jG (d:= .aM [(ig (m.at (u64 (m.pc+u64 (dz 1 w dst src base aa ai cc)))) ⟨1,w,dst,src,base,aa,ai,cc⟩ ld).1.d,.int .i64 0]) [.ret _ _ _ c0,tF,.ret _ _ _ c1,tT,.get oS 1 (D.fn (Ve 75) [.ptr false 4 0] []) rfl,tF,.inl,.inl,.ret _ _ _ c2,.cH _ true (dC d0 d1),.fK _ _ _ _ (@cW m dst (aQ (WO.wrap WO.u64 ai) w) ((fT m (dT m 1 w dst src base aa ai cc) (xT 1 w dst src base aa ai cc ld))) d0 d1),tF] (by kernel_rfl))
theorem yo:l6 26:=by
 intro m w dst src base aa ai cc ld d0 d1 s0 s1 b0 b1 hm
 have c0:= @aE 26 w dst src base aa ai cc (by decide)
 rw [show (aA 26 w dst src base aa ai cc)=true from hm] at c0
 have c1:= @bX 26 w dst src base aa ai cc (by decide)
 have c2:= @bS ld w
 exact (jG (d:= .aM [(ig (m.at (u64 (m.pc+u64 (dz 26 w dst src base aa ai cc)))) ⟨26,w,dst,src,base,aa,ai,cc⟩ ld).1.d,.int .i64 0]) [.ret _ _ _ c0,tF,.ret _ _ _ c1,tT,.get oS 26 (D.fn (Ve 78) [.ptr false 4 0] []) rfl,tF,.inl,.inl,.ret _ _ _ c2,.cH _ true (dC d0 d1),.fK _ _ _ _ (@cW m dst (aQ ld w) ((fT m (dT m 26 w dst src base aa ai cc) (xT 26 w dst src base aa ai cc ld))) d0 d1),tF] (by kernel_rfl))
theorem yn:l6 27:=by
 intro m w dst src base aa ai cc ld d0 d1 s0 s1 b0 b1 hm
 have c0:= @aE 27 w dst src base aa ai cc (by decide)
 rw [show (aA 27 w dst src base aa ai cc)=true from hm] at c0
 have c1:= @bX 27 w dst src base aa ai cc (by decide)
 exact (jG (d:= .aM [(ig (m.at (u64 (m.pc+u64 (dz 27 w dst src base aa ai cc)))) ⟨27,w,dst,src,base,aa,ai,cc⟩ ld).1.d,.int .i64 0]) [.ret _ _ _ c0,tF,.ret _ _ _ c1,tT,.get oS 27 (D.fn (Ve 79) [.ptr false 4 0] []) rfl,tF,.inl,tF] (by kernel_rfl))
theorem ym:l6 28:=by
 intro m w dst src base aa ai cc ld d0 d1 s0 s1 b0 b1 hm
 have c0:= @aE 28 w dst src base aa ai cc (by decide)
 rw [show (aA 28 w dst src base aa ai cc)=true from hm] at c0
 have c1:= @bX 28 w dst src base aa ai cc (by decide)
 exact (jG (d:= .aM [(ig (m.at (u64 (m.pc+u64 (dz 28 w dst src base aa ai cc)))) ⟨28,w,dst,src,base,aa,ai,cc⟩ ld).1.d,.int .i64 0]) [.ret _ _ _ c0,tF,.ret _ _ _ c1,tT,.get oS 28 (D.fn (Ve 80) [.ptr false 4 0] []) rfl,tF,.inl,tF] (by kernel_rfl))
theorem yj:l6 30:=by
 intro m w dst src base aa ai cc ld d0 d1 s0 s1 b0 b1 hm
 have c0:= @aE 30 w dst src base aa ai cc (by decide)
 rw [show (aA 30 w dst src base aa ai cc)=true from hm] at c0
 have c1:= @bX 30 w dst src base aa ai cc (by decide)
 exact (jG (d:= .aM [(ig (m.at (u64 (m.pc+u64 (dz 30 w dst src base aa ai cc)))) ⟨30,w,dst,src,base,aa,ai,cc⟩ ld).1.d,.int .i64 0]) [.ret _ _ _ c0,tF,.ret _ _ _ c1,tT,.get oS 30 (D.fn (Ve 82) [.ptr false 4 0] []) rfl,tF,.inl,tF] (by kernel_rfl))
theorem yi:l6 31:=by
 intro m w dst src base aa ai cc ld d0 d1 s0 s1 b0 b1 hm
 have c0:= @aE 31 w dst src base aa ai cc (by decide)
 rw [show (aA 31 w dst src base aa ai cc)=true from hm] at c0
 have c1:= @bX 31 w dst src base aa ai cc (by decide)
 exact (jG (d:= .aM [(ig (m.at (u64 (m.pc+u64 (dz 31 w dst src base aa ai cc)))) ⟨31,w,dst,src,base,aa,ai,cc⟩ ld).1.d,.int .i64 0]) [.ret _ _ _ c0,tF,.ret _ _ _ c1,tT,.get oS 31 (D.fn (Ve 83) [.ptr false 4 0] []) rfl,tF,.inl,tF] (by kernel_rfl))
theorem wy {cc:Int} (h:bb cc=true):cc=2∨cc=3∨cc=4∨cc=5∨cc=6∨cc=7∨cc=12∨cc=13∨cc=14∨cc=15:=by
 simp only [bb,decide_eq_true_eq] at h;omega
theorem nY (cc:Int) (c z s o:Bool) (h:bb cc=true):aZ Tryz.prog 141 [.int .i8 cc,fD true c z s o] (.aM [.bool (dw cc c z s o),.int .i64 0]):=by
 rcases wy h with rfl|rfl|rfl|rfl|rfl|rfl|rfl|rfl|rfl|rfl
 ·exact wb c z s o
 ·exact wa c z s o
 ·exact v9 c z s o
 ·exact v8 c z s o
 ·exact v7 c z s o
 ·exact v5 c z s o
 ·exact tx c z s o
 ·exact tw c z s o
 ·exact tu c z s o
 ·exact tq c z s o
theorem nZ (cc:Int) (c z s o:Bool) (h:bb cc=true):aZ Tryz.prog 141 [.int .i8 cc,fD false c z s o] (.aM [.bool false,.int .i64 20]):=by
 rcases wy h with rfl|rfl|rfl|rfl|rfl|rfl|rfl|rfl|rfl|rfl
 ·exact tp c z s o
 ·exact tk c z s o
 ·exact tj c z s o
 ·exact ti c z s o
 ·exact th c z s o
 ·exact tg c z s o
 ·exact qL c z s o
 ·exact qK c z s o
 ·exact qJ c z s o
 ·exact qI c z s o
end Go.Proofs.YtkpneibifdoecaaGreat
