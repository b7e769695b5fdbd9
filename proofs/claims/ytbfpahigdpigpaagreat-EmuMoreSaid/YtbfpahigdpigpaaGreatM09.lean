import Derived.ProofKit
import Derived.Carry
import Derived.SizedLaws
import Derived.Test.YtbfpahigdpigpaaGreatM04
import Derived.Test.YtbfpahigdpigpaaGreatM05
import Derived.Test.YtbfpahigdpigpaaGreatM06
import Derived.Test.YtbfpahigdpigpaaGreatM07
import Derived.Test.YtbfpahigdpigpaaGreatM08
/- Contracts and plain laws that a statement's proof leans on (texts merged:XB2c,XB2d,XB2e,XBytes,XB3,XBytes2,XLen,XD2,XD3,XD4,XD4A,EM16,EvR). -/
set_option linter.unusedVariables false
set_option linter.unusedSimpArgs false
set_option maxRecDepth 100000
set_option maxHeartbeats 8000000
namespace Go.Proofs.YtbfpahigdpigpaaGreat
open Go Go.Ev
theorem tH (w dst src base aa af cc:Int) (d0:0≤dst) (d1:dst≤15) (s0:0≤src) (s1:src≤15) (b0:0≤base) (b1:base≤15) (p0: -2147483648≤aa) (p1:aa≤2147483647) (i0: -2147483648≤af) (i1:af≤2147483647) (c0:0≤cc) (c1:cc≤15) (hm:cg 26 w dst src base aa af cc=true):aE Tryz.prog 43 ([xD 26 w dst src base aa af cc]) (.aA [.aj .no 1 (bD (aK 26 w dst src base aa af cc)),.int .i64 0]):=by
 have c0:= @aJ 26 w dst src base aa af cc (by decide)
 rw [hm] at c0
 have c1:= @bZ 26 (by decide)
 let E1:EL:= [.ret _ _ _ c0,tF,.ret _ _ _ c1,tF,tF,tF,tF,tF,tF,tT]
 by_cases h2:w=8
 ·subst h2
  rcases dT (dB false dst base false) with h3|h3
  ·have c4:= @db dst base d0 d1 b0 b1 false false h3
   generalize g6:e7 false dst base=r5 at c4
   rcases dT (decide (base%8=4)) with h7|h7
   ·have c8:= @eI dst base aa d0 d1 b0 b1 p0 p1 h7
    exact (iT (d:= .aA [.aj (.fresh 1) 1 [.int .u8 r5,.int .u8 15,.int .u8 182,.int .u8 (128+8*(dst%8)+base%8),.int .u8 36,.int .u8 (aa%256),.int .u8 (aa / 256%256),.int .u8 (aa / 65536%256),.int .u8 (aa / 16777216%256)],.int .i64 0]) (E1++ [tT,.ret _ _ _ c4,.inl,.ret _ _ _ c8,.inl,.go 64,tT,tT,.get ([.aj .tight 1 [.int .u8 r5],.aj .tight 1 [.int .u8 15,.int .u8 182],.aj .no 1 [.int .u8 (128+8*(dst%8)+base%8),.int .u8 36,.int .u8 (aa%256),.int .u8 (aa / 256%256),.int .u8 (aa / 65536%256),.int .u8 (aa / 16777216%256)]]) 0 (.aj .tight 1 [.int .u8 r5]) rfl,.len 1 2147483648 (by decide),tT,tT,.get ([.aj .tight 1 [.int .u8 r5],.aj .tight 1 [.int .u8 15,.int .u8 182],.aj .no 1 [.int .u8 (128+8*(dst%8)+base%8),.int .u8 36,.int .u8 (aa%256),.int .u8 (aa / 256%256),.int .u8 (aa / 65536%256),.int .u8 (aa / 16777216%256)]]) 1 (.aj .tight 1 [.int .u8 15,.int .u8 182]) rfl,.len 3 2147483648 (by decide),tT,tT,.get ([.aj .tight 1 [.int .u8 r5],.aj .tight 1 [.int .u8 15,.int .u8 182],.aj .no 1 [.int .u8 (128+8*(dst%8)+base%8),.int .u8 36,.int .u8 (aa%256),.int .u8 (aa / 256%256),.int .u8 (aa / 65536%256),.int .u8 (aa / 16777216%256)]]) 2 (.aj .no 1 [.int .u8 (128+8*(dst%8)+base%8),.int .u8 36,.int .u8 (aa%256),.int .u8 (aa / 256%256),.int .u8 (aa / 65536%256),.int .u8 (aa / 16777216%256)]) rfl,.len 9 2147483648 (by decide),tF]) (by kernel_rfl)).to (by clear E1;subst_vars;(try simp only [bu] at*);(try simp only [beq_iff_eq] at h);(try simp only [decide_eq_true_eq,decide_eq_false_iff_not] at*);simp_all [wk,aw,aM,aK,show ax 26=7 from rfl,bc,bD,cf,cR,bB,dt])
   have c9:= @eH dst base aa d0 d1 b0 b1 p0 p1 h7
   exact (iT (d:= .aA [.aj (.fresh 1) 1 [.int .u8 r5,.int .u8 15,.int .u8 182,.int .u8 (128+8*(dst%8)+base%8),.int .u8 (aa%256),.int .u8 (aa / 256%256),.int .u8 (aa / 65536%256),.int .u8 (aa / 16777216%256)],.int .i64 0]) (E1++ [tT,.ret _ _ _ c4,.inl,.ret _ _ _ c9,.inl,.go 64,tT,tT,.get ([.aj .tight 1 [.int .u8 r5],.aj .tight 1 [.int .u8 15,.int .u8 182],.aj .no 1 [.int .u8 (128+8*(dst%8)+base%8),.int .u8 (aa%256),.int .u8 (aa / 256%256),.int .u8 (aa / 65536%256),.int .u8 (aa / 16777216%256)]]) 0 (.aj .tight 1 [.int .u8 r5]) rfl,.len 1 2147483648 (by decide),tT,tT,.get ([.aj .tight 1 [.int .u8 r5],.aj .tight 1 [.int .u8 15,.int .u8 182],.aj .no 1 [.int .u8 (128+8*(dst%8)+base%8),.int .u8 (aa%256),.int .u8 (aa / 256%256),.int .u8 (aa / 65536%256),.int .u8 (aa / 16777216%256)]]) 1 (.aj .tight 1 [.int .u8 15,.int .u8 182]) rfl,.len 3 2147483648 (by decide),tT,tT,.get ([.aj .tight 1 [.int .u8 r5],.aj .tight 1 [.int .u8 15,.int .u8 182],.aj .no 1 [.int .u8 (128+8*(dst%8)+base%8),.int .u8 (aa%256),.int .u8 (aa / 256%256),.int .u8 (aa / 65536%256),.int .u8 (aa / 16777216%256)]]) 2 (.aj .no 1 [.int .u8 (128+8*(dst%8)+base%8),.int .u8 (aa%256),.int .u8 (aa / 256%256),.int .u8 (aa / 65536%256),.int .u8 (aa / 16777216%256)]) rfl,.len 8 2147483648 (by decide),tF]) (by kernel_rfl)).to (by clear E1;subst_vars;(try simp only [bu] at*);(try simp only [beq_iff_eq] at h);(try simp only [decide_eq_true_eq,decide_eq_false_iff_not] at*);simp_all [wk,aw,aM,aK,show ax 26=7 from rfl,bc,bD,cf,cR,bB,dt])
  have c10:= @ej dst base d0 d1 b0 b1 false false h3
  rcases dT (decide (base%8=4)) with h11|h11
  ·have c12:= @eI dst base aa d0 d1 b0 b1 p0 p1 h11
   exact (iT (d:= .aA [.aj (.fresh 1) 1 [.int .u8 15,.int .u8 182,.int .u8 (128+8*(dst%8)+base%8),.int .u8 36,.int .u8 (aa%256),.int .u8 (aa / 256%256),.int .u8 (aa / 65536%256),.int .u8 (aa / 16777216%256)],.int .i64 0]) (E1++ [tT,.ret _ _ _ c10,.inl,.ret _ _ _ c12,.inl,.go 64,tT,tT,.get ([.aj .tight 1 [],.aj .tight 1 [.int .u8 15,.int .u8 182],.aj .no 1 [.int .u8 (128+8*(dst%8)+base%8),.int .u8 36,.int .u8 (aa%256),.int .u8 (aa / 256%256),.int .u8 (aa / 65536%256),.int .u8 (aa / 16777216%256)]]) 0 (.aj .tight 1 []) rfl,.len 0 2147483648 (by decide),tT,tT,.get ([.aj .tight 1 [],.aj .tight 1 [.int .u8 15,.int .u8 182],.aj .no 1 [.int .u8 (128+8*(dst%8)+base%8),.int .u8 36,.int .u8 (aa%256),.int .u8 (aa / 256%256),.int .u8 (aa / 65536%256),.int .u8 (aa / 16777216%256)]]) 1 (.aj .tight 1 [.int .u8 15,.int .u8 182]) rfl,.len 2 2147483648 (by decide),tT,tT,.get ([.aj .tight 1 [],.aj .tight 1 [.int .u8 15,.int .u8 182],.aj .no 1 [.int .u8 (128+8*(dst%8)+base%8),.int .u8 36,.int .u8 (aa%256),.int .u8 (aa / 256%256),.int .u8 (aa / 65536%256),.int .u8 (aa / 16777216%256)]]) 2 (.aj .no 1 [.int .u8 (128+8*(dst%8)+base%8),.int .u8 36,.int .u8 (aa%256),.int .u8 (aa / 256%256),.int .u8 (aa / 65536%256),.int .u8 (aa / 16777216%256)]) rfl,.len 8 2147483648 (by decide),tF]) (by kernel_rfl)).to (by clear E1;subst_vars;(try simp only [bu] at*);(try simp only [beq_iff_eq] at h);(try simp only [decide_eq_true_eq,decide_eq_false_iff_not] at*);simp_all [wk,aw,aM,aK,show ax 26=7 from rfl,bc,bD,cf,cR,bB,dt])
  have c13:= @eH dst base aa d0 d1 b0 b1 p0 p1 h11
  exact (iT (d:= .aA [.aj (.fresh 1) 1 [.int .u8 15,.int .u8 182,.int .u8 (128+8*(dst%8)+base%8),.int .u8 (aa%256),.int .u8 (aa / 256%256),.int .u8 (aa / 65536%256),.int .u8 (aa / 16777216%256)],.int .i64 0]) (E1++ [tT,.ret _ _ _ c10,.inl,.ret _ _ _ c13,.inl,.go 64,tT,tT,.get ([.aj .tight 1 [],.aj .tight 1 [.int .u8 15,.int .u8 182],.aj .no 1 [.int .u8 (128+8*(dst%8)+base%8),.int .u8 (aa%256),.int .u8 (aa / 256%256),.int .u8 (aa / 65536%256),.int .u8 (aa / 16777216%256)]]) 0 (.aj .tight 1 []) rfl,.len 0 2147483648 (by decide),tT,tT,.get ([.aj .tight 1 [],.aj .tight 1 [.int .u8 15,.int .u8 182],.aj .no 1 [.int .u8 (128+8*(dst%8)+base%8),.int .u8 (aa%256),.int .u8 (aa / 256%256),.int .u8 (aa / 65536%256),.int .u8 (aa / 16777216%256)]]) 1 (.aj .tight 1 [.int .u8 15,.int .u8 182]) rfl,.len 2 2147483648 (by decide),tT,tT,.get ([.aj .tight 1 [],.aj .tight 1 [.int .u8 15,.int .u8 182],.aj .no 1 [.int .u8 (128+8*(dst%8)+base%8),.int .u8 (aa%256),.int .u8 (aa / 256%256),.int .u8 (aa / 65536%256),.int .u8 (aa / 16777216%256)]]) 2 (.aj .no 1 [.int .u8 (128+8*(dst%8)+base%8),.int .u8 (aa%256),.int .u8 (aa / 256%256),.int .u8 (aa / 65536%256),.int .u8 (aa / 16777216%256)]) rfl,.len 7 2147483648 (by decide),tF]) (by kernel_rfl)).to (by clear E1;subst_vars;(try simp only [bu] at*);(try simp only [beq_iff_eq] at h);(try simp only [decide_eq_true_eq,decide_eq_false_iff_not] at*);simp_all [wk,aw,aM,aK,show ax 26=7 from rfl,bc,bD,cf,cR,bB,dt])
 let E2:EL:=E1++ [tC (av h2)]
 by_cases h14:w=16
 ·subst h14
  rcases dT (dB false dst base false) with h15|h15
  ·have c16:= @db dst base d0 d1 b0 b1 false false h15
   generalize g18:e7 false dst base=r17 at c16
   rcases dT (decide (base%8=4)) with h19|h19
   ·have c20:= @eI dst base aa d0 d1 b0 b1 p0 p1 h19
    exact (iT (d:= .aA [.aj (.fresh 1) 1 [.int .u8 r17,.int .u8 15,.int .u8 183,.int .u8 (128+8*(dst%8)+base%8),.int .u8 36,.int .u8 (aa%256),.int .u8 (aa / 256%256),.int .u8 (aa / 65536%256),.int .u8 (aa / 16777216%256)],.int .i64 0]) (E2++ [tT,.ret _ _ _ c16,.inl,.ret _ _ _ c20,.inl,.go 64,tT,tT,.get ([.aj .tight 1 [.int .u8 r17],.aj .tight 1 [.int .u8 15,.int .u8 183],.aj .no 1 [.int .u8 (128+8*(dst%8)+base%8),.int .u8 36,.int .u8 (aa%256),.int .u8 (aa / 256%256),.int .u8 (aa / 65536%256),.int .u8 (aa / 16777216%256)]]) 0 (.aj .tight 1 [.int .u8 r17]) rfl,.len 1 2147483648 (by decide),tT,tT,.get ([.aj .tight 1 [.int .u8 r17],.aj .tight 1 [.int .u8 15,.int .u8 183],.aj .no 1 [.int .u8 (128+8*(dst%8)+base%8),.int .u8 36,.int .u8 (aa%256),.int .u8 (aa / 256%256),.int .u8 (aa / 65536%256),.int .u8 (aa / 16777216%256)]]) 1 (.aj .tight 1 [.int .u8 15,.int .u8 183]) rfl,.len 3 2147483648 (by decide),tT,tT,.get ([.aj .tight 1 [.int .u8 r17],.aj .tight 1 [.int .u8 15,.int .u8 183],.aj .no 1 [.int .u8 (128+8*(dst%8)+base%8),.int .u8 36,.int .u8 (aa%256),.int .u8 (aa / 256%256),.int .u8 (aa / 65536%256),.int .u8 (aa / 16777216%256)]]) 2 (.aj .no 1 [.int .u8 (128+8*(dst%8)+base%8),.int .u8 36,.int .u8 (aa%256),.int .u8 (aa / 256%256),.int .u8 (aa / 65536%256),.int .u8 (aa / 16777216%256)]) rfl,.len 9 2147483648 (by decide),tF]) (by kernel_rfl)).to (by clear E1 E2;subst_vars;(try simp only [bu] at*);(try simp only [beq_iff_eq] at h);(try simp only [decide_eq_true_eq,decide_eq_false_iff_not] at*);simp_all [wk,aw,aM,aK,show ax 26=7 from rfl,bc,bD,cf,cR,bB,dt])
   have c21:= @eH dst base aa d0 d1 b0 b1 p0 p1 h19
   exact (iT (d:= .aA [.aj (.fresh 1) 1 [.int .u8 r17,.int .u8 15,.int .u8 183,.int .u8 (128+8*(dst%8)+base%8),.int .u8 (aa%256),.int .u8 (aa / 256%256),.int .u8 (aa / 65536%256),.int .u8 (aa / 16777216%256)],.int .i64 0]) (E2++ [tT,.ret _ _ _ c16,.inl,.ret _ _ _ c21,.inl,.go 64,tT,tT,.get ([.aj .tight 1 [.int .u8 r17],.aj .tight 1 [.int .u8 15,.int .u8 183],.aj .no 1 [.int .u8 (128+8*(dst%8)+base%8),.int .u8 (aa%256),.int .u8 (aa / 256%256),.int .u8 (aa / 65536%256),.int .u8 (aa / 16777216%256)]]) 0 (.aj .tight 1 [.int .u8 r17]) rfl,.len 1 2147483648 (by decide),tT,tT,.get ([.aj .tight 1 [.int .u8 r17],.aj .tight 1 [.int .u8 15,.int .u8 183],.aj .no 1 [.int .u8 (128+8*(dst%8)+base%8),.int .u8 (aa%256),.int .u8 (aa / 256%256),.int .u8 (aa / 65536%256),.int .u8 (aa / 16777216%256)]]) 1 (.aj .tight 1 [.int .u8 15,.int .u8 183]) rfl,.len 3 2147483648 (by decide),tT,tT,.get ([.aj .tight 1 [.int .u8 r17],.aj .tight 1 [.int .u8 15,.int .u8 183],.aj .no 1 [.int .u8 (128+8*(dst%8)+base%8),.int .u8 (aa%256),.int .u8 (aa / 256%256),.int .u8 (aa / 65536%256),.int .u8 (aa / 16777216%256)]]) 2 (.aj .no 1 [.int .u8 (128+8*(dst%8)+base%8),.int .u8 (aa%256),.int .u8 (aa / 256%256),.int .u8 (aa / 65536%256),.int .u8 (aa / 16777216%256)]) rfl,.len 8 2147483648 (by decide),tF]) (by kernel_rfl)).to (by clear E1 E2;subst_vars;(try simp only [bu] at*);(try simp only [beq_iff_eq] at h);(try simp only [decide_eq_true_eq,decide_eq_false_iff_not] at*);simp_all [wk,aw,aM,aK,show ax 26=7 from rfl,bc,bD,cf,cR,bB,dt])
  have c22:= @ej dst base d0 d1 b0 b1 false false h15
  rcases dT (decide (base%8=4)) with h23|h23
  ·have c24:= @eI dst base aa d0 d1 b0 b1 p0 p1 h23
   exact (iT (d:= .aA [.aj (.fresh 1) 1 [.int .u8 15,.int .u8 183,.int .u8 (128+8*(dst%8)+base%8),.int .u8 36,.int .u8 (aa%256),.int .u8 (aa / 256%256),.int .u8 (aa / 65536%256),.int .u8 (aa / 16777216%256)],.int .i64 0]) (E2++ [tT,.ret _ _ _ c22,.inl,.ret _ _ _ c24,.inl,.go 64,tT,tT,.get ([.aj .tight 1 [],.aj .tight 1 [.int .u8 15,.int .u8 183],.aj .no 1 [.int .u8 (128+8*(dst%8)+base%8),.int .u8 36,.int .u8 (aa%256),.int .u8 (aa / 256%256),.int .u8 (aa / 65536%256),.int .u8 (aa / 16777216%256)]]) 0 (.aj .tight 1 []) rfl,.len 0 2147483648 (by decide),tT,tT,.get ([.aj .tight 1 [],.aj .tight 1 [.int .u8 15,.int .u8 183],.aj .no 1 [.int .u8 (128+8*(dst%8)+base%8),.int .u8 36,.int .u8 (aa%256),.int .u8 (aa / 256%256),.int .u8 (aa / 65536%256),.int .u8 (aa / 16777216%256)]]) 1 (.aj .tight 1 [.int .u8 15,.int .u8 183]) rfl,.len 2 2147483648 (by decide),tT,tT,.get ([.aj .tight 1 [],.aj .tight 1 [.int .u8 15,.int .u8 183],.aj .no 1 [.int .u8 (128+8*(dst%8)+base%8),.int .u8 36,.int .u8 (aa%256),.int .u8 (aa / 256%256),.int .u8 (aa / 65536%256),.int .u8 (aa / 16777216%256)]]) 2 (.aj .no 1 [.int .u8 (128+8*(dst%8)+base%8),.int .u8 36,.int .u8 (aa%256),.int .u8 (aa / 256%256),.int .u8 (aa / 65536%256),.int .u8 (aa / 16777216%256)]) rfl,.len 8 2147483648 (by decide),tF]) (by kernel_rfl)).to (by clear E1 E2;subst_vars;(try simp only [bu] at*);(try simp only [beq_iff_eq] at h);(try simp only [decide_eq_true_eq,decide_eq_false_iff_not] at*);simp_all [wk,aw,aM,aK,show ax 26=7 from rfl,bc,bD,cf,cR,bB,dt])
  have c25:= @eH dst base aa d0 d1 b0 b1 p0 p1 h23
  exact (iT (d:= .aA [.aj (.fresh 1) 1 [.int .u8 15,.int .u8 183,.int .u8 (128+8*(dst%8)+base%8),.int .u8 (aa%256),.int .u8 (aa / 256%256),.int .u8 (aa / 65536%256),.int .u8 (aa / 16777216%256)],.int .i64 0]) (E2++ [tT,.ret _ _ _ c22,.inl,.ret _ _ _ c25,.inl,.go 64,tT,tT,.get ([.aj .tight 1 [],.aj .tight 1 [.int .u8 15,.int .u8 183],.aj .no 1 [.int .u8 (128+8*(dst%8)+base%8),.int .u8 (aa%256),.int .u8 (aa / 256%256),.int .u8 (aa / 65536%256),.int .u8 (aa / 16777216%256)]]) 0 (.aj .tight 1 []) rfl,.len 0 2147483648 (by decide),tT,tT,.get ([.aj .tight 1 [],.aj .tight 1 [.int .u8 15,.int .u8 183],.aj .no 1 [.int .u8 (128+8*(dst%8)+base%8),.int .u8 (aa%256),.int .u8 (aa / 256%256),.int .u8 (aa / 65536%256),.int .u8 (aa / 16777216%256)]]) 1 (.aj .tight 1 [.int .u8 15,.int .u8 183]) rfl,.len 2 2147483648 (by decide),tT,tT,.get ([.aj .tight 1 [],.aj .tight 1 [.int .u8 15,.int .u8 183],.aj .no 1 [.int .u8 (128+8*(dst%8)+base%8),.int .u8 (aa%256),.int .u8 (aa / 256%256),.int .u8 (aa / 65536%256),.int .u8 (aa / 16777216%256)]]) 2 (.aj .no 1 [.int .u8 (128+8*(dst%8)+base%8),.int .u8 (aa%256),.int .u8 (aa / 256%256),.int .u8 (aa / 65536%256),.int .u8 (aa / 16777216%256)]) rfl,.len 7 2147483648 (by decide),tF]) (by kernel_rfl)).to (by clear E1 E2;subst_vars;(try simp only [bu] at*);(try simp only [beq_iff_eq] at h);(try simp only [decide_eq_true_eq,decide_eq_false_iff_not] at*);simp_all [wk,aw,aM,aK,show ax 26=7 from rfl,bc,bD,cf,cR,bB,dt])
 rcases dT (dB (w==64) dst base false) with h26|h26
 ·have c27:= @db dst base d0 d1 b0 b1 (w==64) false h26
  generalize g29:e7 (w==64) dst base=r28 at c27
  rcases dT (decide (base%8=4)) with h30|h30
  ·have c31:= @eI dst base aa d0 d1 b0 b1 p0 p1 h30
   exact (iT (d:= .aA [.aj (.fresh 1) 1 [.int .u8 r28,.int .u8 139,.int .u8 (128+8*(dst%8)+base%8),.int .u8 36,.int .u8 (aa%256),.int .u8 (aa / 256%256),.int .u8 (aa / 65536%256),.int .u8 (aa / 16777216%256)],.int .i64 0]) (E2++ [tC (av h14),.ret _ _ _ c27,.inl,.ret _ _ _ c31,.inl,.go 64,tT,tT,.get ([.aj .tight 1 [.int .u8 r28],.aj .tight 1 [.int .u8 139],.aj .no 1 [.int .u8 (128+8*(dst%8)+base%8),.int .u8 36,.int .u8 (aa%256),.int .u8 (aa / 256%256),.int .u8 (aa / 65536%256),.int .u8 (aa / 16777216%256)]]) 0 (.aj .tight 1 [.int .u8 r28]) rfl,.len 1 2147483648 (by decide),tT,tT,.get ([.aj .tight 1 [.int .u8 r28],.aj .tight 1 [.int .u8 139],.aj .no 1 [.int .u8 (128+8*(dst%8)+base%8),.int .u8 36,.int .u8 (aa%256),.int .u8 (aa / 256%256),.int .u8 (aa / 65536%256),.int .u8 (aa / 16777216%256)]]) 1 (.aj .tight 1 [.int .u8 139]) rfl,.len 2 2147483648 (by decide),tT,tT,.get ([.aj .tight 1 [.int .u8 r28],.aj .tight 1 [.int .u8 139],.aj .no 1 [.int .u8 (128+8*(dst%8)+base%8),.int .u8 36,.int .u8 (aa%256),.int .u8 (aa / 256%256),.int .u8 (aa / 65536%256),.int .u8 (aa / 16777216%256)]]) 2 (.aj .no 1 [.int .u8 (128+8*(dst%8)+base%8),.int .u8 36,.int .u8 (aa%256),.int .u8 (aa / 256%256),.int .u8 (aa / 65536%256),.int .u8 (aa / 16777216%256)]) rfl,.len 8 2147483648 (by decide),tF]) (by kernel_rfl)).to (by clear E1 E2;subst_vars;(try simp only [bu] at*);(try simp only [beq_iff_eq] at h);(try simp only [decide_eq_true_eq,decide_eq_false_iff_not] at*);simp_all [wk,aw,aM,aK,show ax 26=7 from rfl,bc,bD,cf,cR,bB,dt])
  have c32:= @eH dst base aa d0 d1 b0 b1 p0 p1 h30
  exact (iT (d:= .aA [.aj (.fresh 1) 1 [.int .u8 r28,.int .u8 139,.int .u8 (128+8*(dst%8)+base%8),.int .u8 (aa%256),.int .u8 (aa / 256%256),.int .u8 (aa / 65536%256),.int .u8 (aa / 16777216%256)],.int .i64 0]) (E2++ [tC (av h14),.ret _ _ _ c27,.inl,.ret _ _ _ c32,.inl,.go 64,tT,tT,.get ([.aj .tight 1 [.int .u8 r28],.aj .tight 1 [.int .u8 139],.aj .no 1 [.int .u8 (128+8*(dst%8)+base%8),.int .u8 (aa%256),.int .u8 (aa / 256%256),.int .u8 (aa / 65536%256),.int .u8 (aa / 16777216%256)]]) 0 (.aj .tight 1 [.int .u8 r28]) rfl,.len 1 2147483648 (by decide),tT,tT,.get ([.aj .tight 1 [.int .u8 r28],.aj .tight 1 [.int .u8 139],.aj .no 1 [.int .u8 (128+8*(dst%8)+base%8),.int .u8 (aa%256),.int .u8 (aa / 256%256),.int .u8 (aa / 65536%256),.int .u8 (aa / 16777216%256)]]) 1 (.aj .tight 1 [.int .u8 139]) rfl,.len 2 2147483648 (by decide),tT,tT,.get ([.aj .tight 1 [.int .u8 r28],.aj .tight 1 [.int .u8 139],.aj .no 1 [.int .u8 (128+8*(dst%8)+base%8),.int .u8 (aa%256),.int .u8 (aa / 256%256),.int .u8 (aa / 65536%256),.int .u8 (aa / 16777216%256)]]) 2 (.aj .no 1 [.int .u8 (128+8*(dst%8)+base%8),.int .u8 (aa%256),.int .u8 (aa / 256%256),.int .u8 (aa / 65536%256),.int .u8 (aa / 16777216%256)]) rfl,.len 7 2147483648 (by decide),tF]) (by kernel_rfl)).to (by clear E1 E2;subst_vars;(try simp only [bu] at*);(try simp only [beq_iff_eq] at h);(try simp only [decide_eq_true_eq,decide_eq_false_iff_not] at*);simp_all [wk,aw,aM,aK,show ax 26=7 from rfl,bc,bD,cf,cR,bB,dt])
 have c33:= @ej dst base d0 d1 b0 b1 (w==64) false h26
 rcases dT (decide (base%8=4)) with h34|h34
 ·have c35:= @eI dst base aa d0 d1 b0 b1 p0 p1 h34
  exact (iT (d:= .aA [.aj (.fresh 1) 1 [.int .u8 139,.int .u8 (128+8*(dst%8)+base%8),.int .u8 36,.int .u8 (aa%256),.int .u8 (aa / 256%256),.int .u8 (aa / 65536%256),.int .u8 (aa / 16777216%256)],.int .i64 0]) (E2++ [tC (av h14),.ret _ _ _ c33,.inl,.ret _ _ _ c35,.inl,.go 64,tT,tT,.get ([.aj .tight 1 [],.aj .tight 1 [.int .u8 139],.aj .no 1 [.int .u8 (128+8*(dst%8)+base%8),.int .u8 36,.int .u8 (aa%256),.int .u8 (aa / 256%256),.int .u8 (aa / 65536%256),.int .u8 (aa / 16777216%256)]]) 0 (.aj .tight 1 []) rfl,.len 0 2147483648 (by decide),tT,tT,.get ([.aj .tight 1 [],.aj .tight 1 [.int .u8 139],.aj .no 1 [.int .u8 (128+8*(dst%8)+base%8),.int .u8 36,.int .u8 (aa%256),.int .u8 (aa / 256%256),.int .u8 (aa / 65536%256),.int .u8 (aa / 16777216%256)]]) 1 (.aj .tight 1 [.int .u8 139]) rfl,.len 1 2147483648 (by decide),tT,tT,.get ([.aj .tight 1 [],.aj .tight 1 [.int .u8 139],.aj .no 1 [.int .u8 (128+8*(dst%8)+base%8),.int .u8 36,.int .u8 (aa%256),.int .u8 (aa / 256%256),.int .u8 (aa / 65536%256),.int .u8 (aa / 16777216%256)]]) 2 (.aj .no 1 [.int .u8 (128+8*(dst%8)+base%8),.int .u8 36,.int .u8 (aa%256),.int .u8 (aa / 256%256),.int .u8 (aa / 65536%256),.int .u8 (aa / 16777216%256)]) rfl,.len 7 2147483648 (by decide),tF]) (by kernel_rfl)).to (by clear E1 E2;subst_vars;(try simp only [bu] at*);(try simp only [beq_iff_eq] at h);(try simp only [decide_eq_true_eq,decide_eq_false_iff_not] at*);simp_all [wk,aw,aM,aK,show ax 26=7 from rfl,bc,bD,cf,cR,bB,dt])
 have c36:= @eH dst base aa d0 d1 b0 b1 p0 p1 h34
 exact (iT (d:= .aA [.aj (.fresh 1) 1 [.int .u8 139,.int .u8 (128+8*(dst%8)+base%8),.int .u8 (aa%256),.int .u8 (aa / 256%256),.int .u8 (aa / 65536%256),.int .u8 (aa / 16777216%256)],.int .i64 0]) (E2++ [tC (av h14),.ret _ _ _ c33,.inl,.ret _ _ _ c36,.inl,.go 64,tT,tT,.get ([.aj .tight 1 [],.aj .tight 1 [.int .u8 139],.aj .no 1 [.int .u8 (128+8*(dst%8)+base%8),.int .u8 (aa%256),.int .u8 (aa / 256%256),.int .u8 (aa / 65536%256),.int .u8 (aa / 16777216%256)]]) 0 (.aj .tight 1 []) rfl,.len 0 2147483648 (by decide),tT,tT,.get ([.aj .tight 1 [],.aj .tight 1 [.int .u8 139],.aj .no 1 [.int .u8 (128+8*(dst%8)+base%8),.int .u8 (aa%256),.int .u8 (aa / 256%256),.int .u8 (aa / 65536%256),.int .u8 (aa / 16777216%256)]]) 1 (.aj .tight 1 [.int .u8 139]) rfl,.len 1 2147483648 (by decide),tT,tT,.get ([.aj .tight 1 [],.aj .tight 1 [.int .u8 139],.aj .no 1 [.int .u8 (128+8*(dst%8)+base%8),.int .u8 (aa%256),.int .u8 (aa / 256%256),.int .u8 (aa / 65536%256),.int .u8 (aa / 16777216%256)]]) 2 (.aj .no 1 [.int .u8 (128+8*(dst%8)+base%8),.int .u8 (aa%256),.int .u8 (aa / 256%256),.int .u8 (aa / 65536%256),.int .u8 (aa / 16777216%256)]) rfl,.len 6 2147483648 (by decide),tF]) (by kernel_rfl)).to (by clear E1 E2;subst_vars;(try simp only [bu] at*);(try simp only [beq_iff_eq] at h);(try simp only [decide_eq_true_eq,decide_eq_false_iff_not] at*);simp_all [wk,aw,aM,aK,show ax 26=7 from rfl,bc,bD,cf,cR,bB,dt])
theorem tG (w dst src base aa af cc:Int) (d0:0≤dst) (d1:dst≤15) (s0:0≤src) (s1:src≤15) (b0:0≤base) (b1:base≤15) (p0: -2147483648≤aa) (p1:aa≤2147483647) (i0: -2147483648≤af) (i1:af≤2147483647) (c0:0≤cc) (c1:cc≤15) (hm:cg 27 w dst src base aa af cc=true):aE Tryz.prog 43 ([xD 27 w dst src base aa af cc]) (.aA [.aj .no 1 (bD (aK 27 w dst src base aa af cc)),.int .i64 0]):=by
 have c0:= @aJ 27 w dst src base aa af cc (by decide)
 rw [hm] at c0
 have c1:= @bZ 27 (by decide)
 let E1:EL:= [.ret _ _ _ c0,tF,.ret _ _ _ c1,tF,tF,tF,tF,tF,tF,tF,tT]
 by_cases h2:w=8
 ·subst h2
  have c3:= @db src base s0 s1 b0 b1 false true (rfl:true=true)
  generalize g5:e7 false src base=r4 at c3
  rcases dT (decide (base%8=4)) with h6|h6
  ·have c7:= @eI src base aa s0 s1 b0 b1 p0 p1 h6
   exact (iT (d:= .aA [.aj (.fresh 1) 1 [.int .u8 r4,.int .u8 136,.int .u8 (128+8*(src%8)+base%8),.int .u8 36,.int .u8 (aa%256),.int .u8 (aa / 256%256),.int .u8 (aa / 65536%256),.int .u8 (aa / 16777216%256)],.int .i64 0]) (E1++ [tT,.ret _ _ _ c3,.inl,.ret _ _ _ c7,.inl,.go 64,tT,tT,.get ([.aj .tight 0 [],.aj .tight 1 [.int .u8 r4],.aj .tight 1 [.int .u8 136],.aj .no 1 [.int .u8 (128+8*(src%8)+base%8),.int .u8 36,.int .u8 (aa%256),.int .u8 (aa / 256%256),.int .u8 (aa / 65536%256),.int .u8 (aa / 16777216%256)]]) 0 (.aj .tight 0 []) rfl,.len 0 2147483648 (by decide),tT,tT,.get ([.aj .tight 0 [],.aj .tight 1 [.int .u8 r4],.aj .tight 1 [.int .u8 136],.aj .no 1 [.int .u8 (128+8*(src%8)+base%8),.int .u8 36,.int .u8 (aa%256),.int .u8 (aa / 256%256),.int .u8 (aa / 65536%256),.int .u8 (aa / 16777216%256)]]) 1 (.aj .tight 1 [.int .u8 r4]) rfl,.len 1 2147483648 (by decide),tT,tT,.get ([.aj .tight 0 [],.aj .tight 1 [.int .u8 r4],.aj .tight 1 [.int .u8 136],.aj .no 1 [.int .u8 (128+8*(src%8)+base%8),.int .u8 36,.int .u8 (aa%256),.int .u8 (aa / 256%256),.int .u8 (aa / 65536%256),.int .u8 (aa / 16777216%256)]]) 2 (.aj .tight 1 [.int .u8 136]) rfl,.len 2 2147483648 (by decide),tT,tT,.get ([.aj .tight 0 [],.aj .tight 1 [.int .u8 r4],.aj .tight 1 [.int .u8 136],.aj .no 1 [.int .u8 (128+8*(src%8)+base%8),.int .u8 36,.int .u8 (aa%256),.int .u8 (aa / 256%256),.int .u8 (aa / 65536%256),.int .u8 (aa / 16777216%256)]]) 3 (.aj .no 1 [.int .u8 (128+8*(src%8)+base%8),.int .u8 36,.int .u8 (aa%256),.int .u8 (aa / 256%256),.int .u8 (aa / 65536%256),.int .u8 (aa / 16777216%256)]) rfl,.len 8 2147483648 (by decide),tF]) (by kernel_rfl)).to (by clear E1;(subst_vars;(try simp only [bu] at*);(try simp only [beq_iff_eq] at h);(try simp only [decide_eq_true_eq,decide_eq_false_iff_not] at*);simp_all [wk,aw,aM,aK,bD,cf,cR,bB,dt,dB,bc,cq,ax];done))
  have c8:= @eH src base aa s0 s1 b0 b1 p0 p1 h6
  exact (iT (d:= .aA [.aj (.fresh 1) 1 [.int .u8 r4,.int .u8 136,.int .u8 (128+8*(src%8)+base%8),.int .u8 (aa%256),.int .u8 (aa / 256%256),.int .u8 (aa / 65536%256),.int .u8 (aa / 16777216%256)],.int .i64 0]) (E1++ [tT,.ret _ _ _ c3,.inl,.ret _ _ _ c8,.inl,.go 64,tT,tT,.get ([.aj .tight 0 [],.aj .tight 1 [.int .u8 r4],.aj .tight 1 [.int .u8 136],.aj .no 1 [.int .u8 (128+8*(src%8)+base%8),.int .u8 (aa%256),.int .u8 (aa / 256%256),.int .u8 (aa / 65536%256),.int .u8 (aa / 16777216%256)]]) 0 (.aj .tight 0 []) rfl,.len 0 2147483648 (by decide),tT,tT,.get ([.aj .tight 0 [],.aj .tight 1 [.int .u8 r4],.aj .tight 1 [.int .u8 136],.aj .no 1 [.int .u8 (128+8*(src%8)+base%8),.int .u8 (aa%256),.int .u8 (aa / 256%256),.int .u8 (aa / 65536%256),.int .u8 (aa / 16777216%256)]]) 1 (.aj .tight 1 [.int .u8 r4]) rfl,.len 1 2147483648 (by decide),tT,tT,.get ([.aj .tight 0 [],.aj .tight 1 [.int .u8 r4],.aj .tight 1 [.int .u8 136],.aj .no 1 [.int .u8 (128+8*(src%8)+base%8),.int .u8 (aa%256),.int .u8 (aa / 256%256),.int .u8 (aa / 65536%256),.int .u8 (aa / 16777216%256)]]) 2 (.aj .tight 1 [.int .u8 136]) rfl,.len 2 2147483648 (by decide),tT,tT,.get ([.aj .tight 0 [],.aj .tight 1 [.int .u8 r4],.aj .tight 1 [.int .u8 136],.aj .no 1 [.int .u8 (128+8*(src%8)+base%8),.int .u8 (aa%256),.int .u8 (aa / 256%256),.int .u8 (aa / 65536%256),.int .u8 (aa / 16777216%256)]]) 3 (.aj .no 1 [.int .u8 (128+8*(src%8)+base%8),.int .u8 (aa%256),.int .u8 (aa / 256%256),.int .u8 (aa / 65536%256),.int .u8 (aa / 16777216%256)]) rfl,.len 7 2147483648 (by decide),tF]) (by kernel_rfl)).to (by clear E1;(subst_vars;(try simp only [bu] at*);(try simp only [beq_iff_eq] at h);(try simp only [decide_eq_true_eq,decide_eq_false_iff_not] at*);simp_all [wk,aw,aM,aK,bD,cf,cR,bB,dt,dB,bc,cq,ax];done))
 let E2:EL:=E1++ [tC (av h2)]
 by_cases h9:w=16
 ·subst h9
  rcases dT (dB false src base false) with h10|h10
  ·have c11:= @db src base s0 s1 b0 b1 false false h10
   generalize g13:e7 false src base=r12 at c11
   rcases dT (decide (base%8=4)) with h14|h14
   ·have c15:= @eI src base aa s0 s1 b0 b1 p0 p1 h14
    exact (iT (d:= .aA [.aj (.fresh 1) 1 [.int .u8 102,.int .u8 r12,.int .u8 137,.int .u8 (128+8*(src%8)+base%8),.int .u8 36,.int .u8 (aa%256),.int .u8 (aa / 256%256),.int .u8 (aa / 65536%256),.int .u8 (aa / 16777216%256)],.int .i64 0]) (E2++ [tT,.ret _ _ _ c11,.inl,.ret _ _ _ c15,.inl,.go 64,tT,tT,.get ([.aj .tight 1 [.int .u8 102],.aj .tight 1 [.int .u8 r12],.aj .tight 1 [.int .u8 137],.aj .no 1 [.int .u8 (128+8*(src%8)+base%8),.int .u8 36,.int .u8 (aa%256),.int .u8 (aa / 256%256),.int .u8 (aa / 65536%256),.int .u8 (aa / 16777216%256)]]) 0 (.aj .tight 1 [.int .u8 102]) rfl,.len 1 2147483648 (by decide),tT,tT,.get ([.aj .tight 1 [.int .u8 102],.aj .tight 1 [.int .u8 r12],.aj .tight 1 [.int .u8 137],.aj .no 1 [.int .u8 (128+8*(src%8)+base%8),.int .u8 36,.int .u8 (aa%256),.int .u8 (aa / 256%256),.int .u8 (aa / 65536%256),.int .u8 (aa / 16777216%256)]]) 1 (.aj .tight 1 [.int .u8 r12]) rfl,.len 2 2147483648 (by decide),tT,tT,.get ([.aj .tight 1 [.int .u8 102],.aj .tight 1 [.int .u8 r12],.aj .tight 1 [.int .u8 137],.aj .no 1 [.int .u8 (128+8*(src%8)+base%8),.int .u8 36,.int .u8 (aa%256),.int .u8 (aa / 256%256),.int .u8 (aa / 65536%256),.int .u8 (aa / 16777216%256)]]) 2 (.aj .tight 1 [.int .u8 137]) rfl,.len 3 2147483648 (by decide),tT,tT,.get ([.aj .tight 1 [.int .u8 102],.aj .tight 1 [.int .u8 r12],.aj .tight 1 [.int .u8 137],.aj .no 1 [.int .u8 (128+8*(src%8)+base%8),.int .u8 36,.int .u8 (aa%256),.int .u8 (aa / 256%256),.int .u8 (aa / 65536%256),.int .u8 (aa / 16777216%256)]]) 3 (.aj .no 1 [.int .u8 (128+8*(src%8)+base%8),.int .u8 36,.int .u8 (aa%256),.int .u8 (aa / 256%256),.int .u8 (aa / 65536%256),.int .u8 (aa / 16777216%256)]) rfl,.len 9 2147483648 (by decide),tF]) (by kernel_rfl)).to (by clear E1 E2;(subst_vars;(try simp only [bu] at*);(try simp only [beq_iff_eq] at h);(try simp only [decide_eq_true_eq,decide_eq_false_iff_not] at*);simp_all [wk,aw,aM,aK,bD,cf,cR,bB,dt,dB,bc,cq,ax];done))
   have c16:= @eH src base aa s0 s1 b0 b1 p0 p1 h14
   exact (iT (d:= .aA [.aj (.fresh 1) 1 [.int .u8 102,.int .u8 r12,.int .u8 137,.int .u8 (128+8*(src%8)+base%8),.int .u8 (aa%256),.int .u8 (aa / 256%256),.int .u8 (aa / 65536%256),.int .u8 (aa / 16777216%256)],.int .i64 0]) (E2++ [tT,.ret _ _ _ c11,.inl,.ret _ _ _ c16,.inl,.go 64,tT,tT,.get ([.aj .tight 1 [.int .u8 102],.aj .tight 1 [.int .u8 r12],.aj .tight 1 [.int .u8 137],.aj .no 1 [.int .u8 (128+8*(src%8)+base%8),.int .u8 (aa%256),.int .u8 (aa / 256%256),.int .u8 (aa / 65536%256),.int .u8 (aa / 16777216%256)]]) 0 (.aj .tight 1 [.int .u8 102]) rfl,.len 1 2147483648 (by decide),tT,tT,.get ([.aj .tight 1 [.int .u8 102],.aj .tight 1 [.int .u8 r12],.aj .tight 1 [.int .u8 137],.aj .no 1 [.int .u8 (128+8*(src%8)+base%8),.int .u8 (aa%256),.int .u8 (aa / 256%256),.int .u8 (aa / 65536%256),.int .u8 (aa / 16777216%256)]]) 1 (.aj .tight 1 [.int .u8 r12]) rfl,.len 2 2147483648 (by decide),tT,tT,.get ([.aj .tight 1 [.int .u8 102],.aj .tight 1 [.int .u8 r12],.aj .tight 1 [.int .u8 137],.aj .no 1 [.int .u8 (128+8*(src%8)+base%8),.int .u8 (aa%256),.int .u8 (aa / 256%256),.int .u8 (aa / 65536%256),.int .u8 (aa / 16777216%256)]]) 2 (.aj .tight 1 [.int .u8 137]) rfl,.len 3 2147483648 (by decide),tT,tT,.get ([.aj .tight 1 [.int .u8 102],.aj .tight 1 [.int .u8 r12],.aj .tight 1 [.int .u8 137],.aj .no 1 [.int .u8 (128+8*(src%8)+base%8),.int .u8 (aa%256),.int .u8 (aa / 256%256),.int .u8 (aa / 65536%256),.int .u8 (aa / 16777216%256)]]) 3 (.aj .no 1 [.int .u8 (128+8*(src%8)+base%8),.int .u8 (aa%256),.int .u8 (aa / 256%256),.int .u8 (aa / 65536%256),.int .u8 (aa / 16777216%256)]) rfl,.len 8 2147483648 (by decide),tF]) (by kernel_rfl)).to (by clear E1 E2;(subst_vars;(try simp only [bu] at*);(try simp only [beq_iff_eq] at h);(try simp only [decide_eq_true_eq,decide_eq_false_iff_not] at*);simp_all [wk,aw,aM,aK,bD,cf,cR,bB,dt,dB,bc,cq,ax];done))
  have c17:= @ej src base s0 s1 b0 b1 false false h10
  rcases dT (decide (base%8=4)) with h18|h18
  ·have c19:= @eI src base aa s0 s1 b0 b1 p0 p1 h18
   exact (iT (d:= .aA [.aj (.fresh 1) 1 [.int .u8 102,.int .u8 137,.int .u8 (128+8*(src%8)+base%8),.int .u8 36,.int .u8 (aa%256),.int .u8 (aa / 256%256),.int .u8 (aa / 65536%256),.int .u8 (aa / 16777216%256)],.int .i64 0]) (E2++ [tT,.ret _ _ _ c17,.inl,.ret _ _ _ c19,.inl,.go 64,tT,tT,.get ([.aj .tight 1 [.int .u8 102],.aj .tight 1 [],.aj .tight 1 [.int .u8 137],.aj .no 1 [.int .u8 (128+8*(src%8)+base%8),.int .u8 36,.int .u8 (aa%256),.int .u8 (aa / 256%256),.int .u8 (aa / 65536%256),.int .u8 (aa / 16777216%256)]]) 0 (.aj .tight 1 [.int .u8 102]) rfl,.len 1 2147483648 (by decide),tT,tT,.get ([.aj .tight 1 [.int .u8 102],.aj .tight 1 [],.aj .tight 1 [.int .u8 137],.aj .no 1 [.int .u8 (128+8*(src%8)+base%8),.int .u8 36,.int .u8 (aa%256),.int .u8 (aa / 256%256),.int .u8 (aa / 65536%256),.int .u8 (aa / 16777216%256)]]) 1 (.aj .tight 1 []) rfl,.len 1 2147483648 (by decide),tT,tT,.get ([.aj .tight 1 [.int .u8 102],.aj .tight 1 [],.aj .tight 1 [.int .u8 137],.aj .no 1 [.int .u8 (128+8*(src%8)+base%8),.int .u8 36,.int .u8 (aa%256),.int .u8 (aa / 256%256),.int .u8 (aa / 65536%256),.int .u8 (aa / 16777216%256)]]) 2 (.aj .tight 1 [.int .u8 137]) rfl,.len 2 2147483648 (by decide),tT,tT,.get ([.aj .tight 1 [.int .u8 102],.aj .tight 1 [],.aj .tight 1 [.int .u8 137],.aj .no 1 [.int .u8 (128+8*(src%8)+base%8),.int .u8 36,.int .u8 (aa%256),.int .u8 (aa / 256%256),.int .u8 (aa / 65536%256),.int .u8 (aa / 16777216%256)]]) 3 (.aj .no 1 [.int .u8 (128+8*(src%8)+base%8),.int .u8 36,.int .u8 (aa%256),.int .u8 (aa / 256%256),.int .u8 (aa / 65536%256),.int .u8 (aa / 16777216%256)]) rfl,.len 8 2147483648 (by decide),tF]) (by kernel_rfl)).to (by clear E1 E2;(subst_vars;(try simp only [bu] at*);(try simp only [beq_iff_eq] at h);(try simp only [decide_eq_true_eq,decide_eq_false_iff_not] at*);simp_all [wk,aw,aM,aK,bD,cf,cR,bB,dt,dB,bc,cq,ax];done))
  have c20:= @eH src base aa s0 s1 b0 b1 p0 p1 h18
  exact (iT (d:= .aA [.aj (.fresh 1) 1 [.int .u8 102,.int .u8 137,.int .u8 (128+8*(src%8)+base%8),.int .u8 (aa%256),.int .u8 (aa / 256%256),.int .u8 (aa / 65536%256),.int .u8 (aa / 16777216%256)],.int .i64 0]) (E2++ [tT,.ret _ _ _ c17,.inl,.ret _ _ _ c20,.inl,.go 64,tT,tT,.get ([.aj .tight 1 [.int .u8 102],.aj .tight 1 [],.aj .tight 1 [.int .u8 137],.aj .no 1 [.int .u8 (128+8*(src%8)+base%8),.int .u8 (aa%256),.int .u8 (aa / 256%256),.int .u8 (aa / 65536%256),.int .u8 (aa / 16777216%256)]]) 0 (.aj .tight 1 [.int .u8 102]) rfl,.len 1 2147483648 (by decide),tT,tT,.get ([.aj .tight 1 [.int .u8 102],.aj .tight 1 [],.aj .tight 1 [.int .u8 137],.aj .no 1 [.int .u8 (128+8*(src%8)+base%8),.int .u8 (aa%256),.int .u8 (aa / 256%256),.int .u8 (aa / 65536%256),.int .u8 (aa / 16777216%256)]]) 1 (.aj .tight 1 []) rfl,.len 1 2147483648 (by decide),tT,tT,.get ([.aj .tight 1 [.int .u8 102],.aj .tight 1 [],.aj .tight 1 [.int .u8 137],.aj .no 1 [.int .u8 (128+8*(src%8)+base%8),.int .u8 (aa%256),.int .u8 (aa / 256%256),.int .u8 (aa / 65536%256),.int .u8 (aa / 16777216%256)]]) 2 (.aj .tight 1 [.int .u8 137]) rfl,.len 2 2147483648 (by decide),tT,tT,.get ([.aj .tight 1 [.int .u8 102],.aj .tight 1 [],.aj .tight 1 [.int .u8 137],.aj .no 1 [.int .u8 (128+8*(src%8)+base%8),.int .u8 (aa%256),.int .u8 (aa / 256%256),.int .u8 (aa / 65536%256),.int .u8 (aa / 16777216%256)]]) 3 (.aj .no 1 [.int .u8 (128+8*(src%8)+base%8),.int .u8 (aa%256),.int .u8 (aa / 256%256),.int .u8 (aa / 65536%256),.int .u8 (aa / 16777216%256)]) rfl,.len 7 2147483648 (by decide),tF]) (by kernel_rfl)).to (by clear E1 E2;(subst_vars;(try simp only [bu] at*);(try simp only [beq_iff_eq] at h);(try simp only [decide_eq_true_eq,decide_eq_false_iff_not] at*);simp_all [wk,aw,aM,aK,bD,cf,cR,bB,dt,dB,bc,cq,ax];done))
 rcases dT (dB (w==64) src base (w==8)) with h21|h21
 ·have c22:= @db src base s0 s1 b0 b1 (w==64) (w==8) h21
  generalize g24:e7 (w==64) src base=r23 at c22
  rcases dT (decide (base%8=4)) with h25|h25
  ·have c26:= @eI src base aa s0 s1 b0 b1 p0 p1 h25
   exact (iT (d:= .aA [.aj (.fresh 1) 1 [.int .u8 r23,.int .u8 137,.int .u8 (128+8*(src%8)+base%8),.int .u8 36,.int .u8 (aa%256),.int .u8 (aa / 256%256),.int .u8 (aa / 65536%256),.int .u8 (aa / 16777216%256)],.int .i64 0]) (E2++ [tC (av h9),.ret _ _ _ c22,.inl,.ret _ _ _ c26,.inl,.go 64,tT,tT,.get ([.aj .tight 0 [],.aj .tight 1 [.int .u8 r23],.aj .tight 1 [.int .u8 137],.aj .no 1 [.int .u8 (128+8*(src%8)+base%8),.int .u8 36,.int .u8 (aa%256),.int .u8 (aa / 256%256),.int .u8 (aa / 65536%256),.int .u8 (aa / 16777216%256)]]) 0 (.aj .tight 0 []) rfl,.len 0 2147483648 (by decide),tT,tT,.get ([.aj .tight 0 [],.aj .tight 1 [.int .u8 r23],.aj .tight 1 [.int .u8 137],.aj .no 1 [.int .u8 (128+8*(src%8)+base%8),.int .u8 36,.int .u8 (aa%256),.int .u8 (aa / 256%256),.int .u8 (aa / 65536%256),.int .u8 (aa / 16777216%256)]]) 1 (.aj .tight 1 [.int .u8 r23]) rfl,.len 1 2147483648 (by decide),tT,tT,.get ([.aj .tight 0 [],.aj .tight 1 [.int .u8 r23],.aj .tight 1 [.int .u8 137],.aj .no 1 [.int .u8 (128+8*(src%8)+base%8),.int .u8 36,.int .u8 (aa%256),.int .u8 (aa / 256%256),.int .u8 (aa / 65536%256),.int .u8 (aa / 16777216%256)]]) 2 (.aj .tight 1 [.int .u8 137]) rfl,.len 2 2147483648 (by decide),tT,tT,.get ([.aj .tight 0 [],.aj .tight 1 [.int .u8 r23],.aj .tight 1 [.int .u8 137],.aj .no 1 [.int .u8 (128+8*(src%8)+base%8),.int .u8 36,.int .u8 (aa%256),.int .u8 (aa / 256%256),.int .u8 (aa / 65536%256),.int .u8 (aa / 16777216%256)]]) 3 (.aj .no 1 [.int .u8 (128+8*(src%8)+base%8),.int .u8 36,.int .u8 (aa%256),.int .u8 (aa / 256%256),.int .u8 (aa / 65536%256),.int .u8 (aa / 16777216%256)]) rfl,.len 8 2147483648 (by decide),tF]) (by kernel_rfl)).to (by clear E1 E2;(subst_vars;(try simp only [bu] at*);(try simp only [beq_iff_eq] at h);(try simp only [decide_eq_true_eq,decide_eq_false_iff_not] at*);simp_all [wk,aw,aM,aK,bD,cf,cR,bB,dt,dB,bc,cq,ax];done))
  have c27:= @eH src base aa s0 s1 b0 b1 p0 p1 h25
  exact (iT (d:= .aA [.aj (.fresh 1) 1 [.int .u8 r23,.int .u8 137,.int .u8 (128+8*(src%8)+base%8),.int .u8 (aa%256),.int .u8 (aa / 256%256),.int .u8 (aa / 65536%256),.int .u8 (aa / 16777216%256)],.int .i64 0]) (E2++ [tC (av h9),.ret _ _ _ c22,.inl,.ret _ _ _ c27,.inl,.go 64,tT,tT,.get ([.aj .tight 0 [],.aj .tight 1 [.int .u8 r23],.aj .tight 1 [.int .u8 137],.aj .no 1 [.int .u8 (128+8*(src%8)+base%8),.int .u8 (aa%256),.int .u8 (aa / 256%256),.int .u8 (aa / 65536%256),.int .u8 (aa / 16777216%256)]]) 0 (.aj .tight 0 []) rfl,.len 0 2147483648 (by decide),tT,tT,.get ([.aj .tight 0 [],.aj .tight 1 [.int .u8 r23],.aj .tight 1 [.int .u8 137],.aj .no 1 [.int .u8 (128+8*(src%8)+base%8),.int .u8 (aa%256),.int .u8 (aa / 256%256),.int .u8 (aa / 65536%256),.int .u8 (aa / 16777216%256)]]) 1 (.aj .tight 1 [.int .u8 r23]) rfl,.len 1 2147483648 (by decide),tT,tT,.get ([.aj .tight 0 [],.aj .tight 1 [.int .u8 r23],.aj .tight 1 [.int .u8 137],.aj .no 1 [.int .u8 (128+8*(src%8)+base%8),.int .u8 (aa%256),.int .u8 (aa / 256%256),.int .u8 (aa / 65536%256),.int .u8 (aa / 16777216%256)]]) 2 (.aj .tight 1 [.int .u8 137]) rfl,.len 2 2147483648 (by decide),tT,tT,.get ([.aj .tight 0 [],.aj .tight 1 [.int .u8 r23],.aj .tight 1 [.int .u8 137],.aj .no 1 [.int .u8 (128+8*(src%8)+base%8),.int .u8 (aa%256),.int .u8 (aa / 256%256),.int .u8 (aa / 65536%256),.int .u8 (aa / 16777216%256)]]) 3 (.aj .no 1 [.int .u8 (128+8*(src%8)+base%8),.int .u8 (aa%256),.int .u8 (aa / 256%256),.int .u8 (aa / 65536%256),.int .u8 (aa / 16777216%256)]) rfl,.len 7 2147483648 (by decide),tF]) (by kernel_rfl)).to (by clear E1 E2;(subst_vars;(try simp only [bu] at*);(try simp only [beq_iff_eq] at h);(try simp only [decide_eq_true_eq,decide_eq_false_iff_not] at*);simp_all [wk,aw,aM,aK,bD,cf,cR,bB,dt,dB,bc,cq,ax];done))
 have c28:= @ej src base s0 s1 b0 b1 (w==64) (w==8) h21
 rcases dT (decide (base%8=4)) with h29|h29
 ·have c30:= @eI src base aa s0 s1 b0 b1 p0 p1 h29
  exact (iT (d:= .aA [.aj (.fresh 1) 1 [.int .u8 137,.int .u8 (128+8*(src%8)+base%8),.int .u8 36,.int .u8 (aa%256),.int .u8 (aa / 256%256),.int .u8 (aa / 65536%256),.int .u8 (aa / 16777216%256)],.int .i64 0]) (E2++ [tC (av h9),.ret _ _ _ c28,.inl,.ret _ _ _ c30,.inl,.go 64,tT,tT,.get ([.aj .tight 0 [],.aj .tight 1 [],.aj .tight 1 [.int .u8 137],.aj .no 1 [.int .u8 (128+8*(src%8)+base%8),.int .u8 36,.int .u8 (aa%256),.int .u8 (aa / 256%256),.int .u8 (aa / 65536%256),.int .u8 (aa / 16777216%256)]]) 0 (.aj .tight 0 []) rfl,.len 0 2147483648 (by decide),tT,tT,.get ([.aj .tight 0 [],.aj .tight 1 [],.aj .tight 1 [.int .u8 137],.aj .no 1 [.int .u8 (128+8*(src%8)+base%8),.int .u8 36,.int .u8 (aa%256),.int .u8 (aa / 256%256),.int .u8 (aa / 65536%256),.int .u8 (aa / 16777216%256)]]) 1 (.aj .tight 1 []) rfl,.len 0 2147483648 (by decide),tT,tT,.get ([.aj .tight 0 [],.aj .tight 1 [],.aj .tight 1 [.int .u8 137],.aj .no 1 [.int .u8 (128+8*(src%8)+base%8),.int .u8 36,.int .u8 (aa%256),.int .u8 (aa / 256%256),.int .u8 (aa / 65536%256),.int .u8 (aa / 16777216%256)]]) 2 (.aj .tight 1 [.int .u8 137]) rfl,.len 1 2147483648 (by decide),tT,tT,.get ([.aj .tight 0 [],.aj .tight 1 [],.aj .tight 1 [.int .u8 137],.aj .no 1 [.int .u8 (128+8*(src%8)+base%8),.int .u8 36,.int .u8 (aa%256),.int .u8 (aa / 256%256),.int .u8 (aa / 65536%256),.int .u8 (aa / 16777216%256)]]) 3 (.aj .no 1 [.int .u8 (128+8*(src%8)+base%8),.int .u8 36,.int .u8 (aa%256),.int .u8 (aa / 256%256),.int .u8 (aa / 65536%256),.int .u8 (aa / 16777216%256)]) rfl,.len 7 2147483648 (by decide),tF]) (by kernel_rfl)).to (by clear E1 E2;(subst_vars;(try simp only [bu] at*);(try simp only [beq_iff_eq] at h);(try simp only [decide_eq_true_eq,decide_eq_false_iff_not] at*);simp_all [wk,aw,aM,aK,bD,cf,cR,bB,dt,dB,bc,cq,ax];done))
 have c31:= @eH src base aa s0 s1 b0 b1 p0 p1 h29
 exact (iT (d:= .aA [.aj (.fresh 1) 1 [.int .u8 137,.int .u8 (128+8*(src%8)+base%8),.int .u8 (aa%256),.int .u8 (aa / 256%256),.int .u8 (aa / 65536%256),.int .u8 (aa / 16777216%256)],.int .i64 0]) (E2++ [tC (av h9),.ret _ _ _ c28,.inl,.ret _ _ _ c31,.inl,.go 64,tT,tT,.get ([.aj .tight 0 [],.aj .tight 1 [],.aj .tight 1 [.int .u8 137],.aj .no 1 [.int .u8 (128+8*(src%8)+base%8),.int .u8 (aa%256),.int .u8 (aa / 256%256),.int .u8 (aa / 65536%256),.int .u8 (aa / 16777216%256)]]) 0 (.aj .tight 0 []) rfl,.len 0 2147483648 (by decide),tT,tT,.get ([.aj .tight 0 [],.aj .tight 1 [],.aj .tight 1 [.int .u8 137],.aj .no 1 [.int .u8 (128+8*(src%8)+base%8),.int .u8 (aa%256),.int .u8 (aa / 256%256),.int .u8 (aa / 65536%256),.int .u8 (aa / 16777216%256)]]) 1 (.aj .tight 1 []) rfl,.len 0 2147483648 (by decide),tT,tT,.get ([.aj .tight 0 [],.aj .tight 1 [],.aj .tight 1 [.int .u8 137],.aj .no 1 [.int .u8 (128+8*(src%8)+base%8),.int .u8 (aa%256),.int .u8 (aa / 256%256),.int .u8 (aa / 65536%256),.int .u8 (aa / 16777216%256)]]) 2 (.aj .tight 1 [.int .u8 137]) rfl,.len 1 2147483648 (by decide),tT,tT,.get ([.aj .tight 0 [],.aj .tight 1 [],.aj .tight 1 [.int .u8 137],.aj .no 1 [.int .u8 (128+8*(src%8)+base%8),.int .u8 (aa%256),.int .u8 (aa / 256%256),.int .u8 (aa / 65536%256),.int .u8 (aa / 16777216%256)]]) 3 (.aj .no 1 [.int .u8 (128+8*(src%8)+base%8),.int .u8 (aa%256),.int .u8 (aa / 256%256),.int .u8 (aa / 65536%256),.int .u8 (aa / 16777216%256)]) rfl,.len 6 2147483648 (by decide),tF]) (by kernel_rfl)).to (by clear E1 E2;(subst_vars;(try simp only [bu] at*);(try simp only [beq_iff_eq] at h);(try simp only [decide_eq_true_eq,decide_eq_false_iff_not] at*);simp_all [wk,aw,aM,aK,bD,cf,cR,bB,dt,dB,bc,cq,ax];done))
def oG (k0_:Int):Prop:= ∀(w dst src base aa af cc:Int) (d0:0≤dst) (d1:dst≤15) (s0:0≤src) (s1:src≤15) (b0:0≤base) (b1:base≤15) (p0: -2147483648≤aa) (p1:aa≤2147483647) (i0: -2147483648≤af) (i1:af≤2147483647) (c0:0≤cc) (c1:cc≤15) (hm:cg k0_ w dst src base aa af cc=true),aE Tryz.prog 43 ([xD k0_ w dst src base aa af cc]) (.aA [.aj .no 1 (bD (aK k0_ w dst src base aa af cc)),.int .i64 0])
theorem tE:oG 28:=by
 intro w dst src base aa af cc d0 d1 s0 s1 b0 b1 p0 p1 i0 i1 c0 c1 hm
 have c0:= @aJ 28 w dst src base aa af cc (by decide)
 rw [show (cg 28 w dst src base aa af cc)=true from hm] at c0
 have c1:= @bZ 28 (by decide)
 by_cases h2:w=8
 ·subst h2
  exact (iT (d:= .aA [.aj .tight 1 [.int .u8 235,.int .u8 (IntKind.wrap IntKind.u8 af)],.int .i64 0]) ([.ret _ _ _ c0,tF,.ret _ _ _ c1]++List.replicate 8 tF++ [tT,tT]) (by kernel_rfl)).to (by (subst_vars;(try simp only [bu] at*);(try simp only [beq_iff_eq] at h);(try simp only [decide_eq_true_eq,decide_eq_false_iff_not] at*);simp_all [wk,aw,aM,aK,show ax 28=9 from rfl,bD,cf,cR,bB,dt];done))
 have c3:= @jP af
 exact (iT (d:= .aA [.aj (.fresh 1) 1 [.int .u8 233,.int .u8 (af%256),.int .u8 (af / 256%256),.int .u8 (af / 65536%256),.int .u8 (af / 16777216%256)],.int .i64 0]) ([.ret _ _ _ c0,tF,.ret _ _ _ c1]++List.replicate 8 tF++ [tT,tC (av h2),.ret _ _ _ c3,.inl,.go 64,tT,tT,.get ([.aj .tight 1 [.int .u8 233],.aj .no 1 [.int .u8 (af%256),.int .u8 (af / 256%256),.int .u8 (af / 65536%256),.int .u8 (af / 16777216%256)]]) 0 (.aj .tight 1 [.int .u8 233]) rfl,.len 1 2147483648 (by decide),tT,tT,.get ([.aj .tight 1 [.int .u8 233],.aj .no 1 [.int .u8 (af%256),.int .u8 (af / 256%256),.int .u8 (af / 65536%256),.int .u8 (af / 16777216%256)]]) 1 (.aj .no 1 [.int .u8 (af%256),.int .u8 (af / 256%256),.int .u8 (af / 65536%256),.int .u8 (af / 16777216%256)]) rfl,.len 5 2147483648 (by decide),tF]) (by kernel_rfl)).to (by (subst_vars;(try simp only [bu] at*);(try simp only [beq_iff_eq] at h);(try simp only [decide_eq_true_eq,decide_eq_false_iff_not] at*);simp_all [wk,aw,aM,aK,show ax 28=9 from rfl,bD,cf,cR,bB,dt];done))
theorem tD:oG 29:=by
 intro w dst src base aa af cc d0 d1 s0 s1 b0 b1 p0 p1 i0 i1 c0 c1 hm
 have c0:= @aJ 29 w dst src base aa af cc (by decide)
 rw [show (cg 29 w dst src base aa af cc)=true from hm] at c0
 have c1:= @bZ 29 (by decide)
 by_cases h2:w=8
 ·subst h2
  exact (iT (d:= .aA [.aj .tight 1 [.int .u8 (IntKind.wrap IntKind.u8 (112+IntKind.wrap IntKind.u8 cc)),.int .u8 (IntKind.wrap IntKind.u8 af)],.int .i64 0]) ([.ret _ _ _ c0,tF,.ret _ _ _ c1]++List.replicate 9 tF++ [tT,tT]) (by kernel_rfl)).to (by (subst_vars;(try simp only [bu] at*);(try simp only [beq_iff_eq] at h);(try simp only [decide_eq_true_eq,decide_eq_false_iff_not] at*);simp_all [wk,aw,aM,aK,show ax 29=10 from rfl,bD,cf,cR,bB,dt];omega))
 have c3:= @jP af
 exact (iT (d:= .aA [.aj (.fresh 1) 1 [.int .u8 15,.int .u8 (IntKind.wrap IntKind.u8 (128+IntKind.wrap IntKind.u8 cc)),.int .u8 (af%256),.int .u8 (af / 256%256),.int .u8 (af / 65536%256),.int .u8 (af / 16777216%256)],.int .i64 0]) ([.ret _ _ _ c0,tF,.ret _ _ _ c1]++List.replicate 9 tF++ [tT,tC (av h2),.ret _ _ _ c3,.inl,.go 64,tT,tT,.get ([.aj .tight 1 [.int .u8 15,.int .u8 (IntKind.wrap IntKind.u8 (128+IntKind.wrap IntKind.u8 cc))],.aj .no 1 [.int .u8 (af%256),.int .u8 (af / 256%256),.int .u8 (af / 65536%256),.int .u8 (af / 16777216%256)]]) 0 (.aj .tight 1 [.int .u8 15,.int .u8 (IntKind.wrap IntKind.u8 (128+IntKind.wrap IntKind.u8 cc))]) rfl,.len 2 2147483648 (by decide),tT,tT,.get ([.aj .tight 1 [.int .u8 15,.int .u8 (IntKind.wrap IntKind.u8 (128+IntKind.wrap IntKind.u8 cc))],.aj .no 1 [.int .u8 (af%256),.int .u8 (af / 256%256),.int .u8 (af / 65536%256),.int .u8 (af / 16777216%256)]]) 1 (.aj .no 1 [.int .u8 (af%256),.int .u8 (af / 256%256),.int .u8 (af / 65536%256),.int .u8 (af / 16777216%256)]) rfl,.len 6 2147483648 (by decide),tF]) (by kernel_rfl)).to (by (subst_vars;(try simp only [bu] at*);(try simp only [beq_iff_eq] at h);(try simp only [decide_eq_true_eq,decide_eq_false_iff_not] at*);simp_all [wk,aw,aM,aK,show ax 29=10 from rfl,bD,cf,cR,bB,dt];omega))
theorem tB:oG 30:=by
 intro w dst src base aa af cc d0 d1 s0 s1 b0 b1 p0 p1 i0 i1 c0 c1 hm
 have c0:= @aJ 30 w dst src base aa af cc (by decide)
 rw [show (cg 30 w dst src base aa af cc)=true from hm] at c0
 have c1:= @bZ 30 (by decide)
 exact (iT (d:= .aA [.aj .tight 1 [.int .u8 195],.int .i64 0]) ([.ret _ _ _ c0,tF,.ret _ _ _ c1]++List.replicate 11 tF) (by kernel_rfl)).to (by (subst_vars;(try simp only [bu] at*);(try simp only [beq_iff_eq] at h);(try simp only [decide_eq_true_eq,decide_eq_false_iff_not] at*);simp_all [wk,aw,aM,aK,show ax 30=11 from rfl,bD,cf,cR,bB,dt];done))
theorem tA:oG 31:=by
 intro w dst src base aa af cc d0 d1 s0 s1 b0 b1 p0 p1 i0 i1 c0 c1 hm
 have c0:= @aJ 31 w dst src base aa af cc (by decide)
 rw [show (cg 31 w dst src base aa af cc)=true from hm] at c0
 have c1:= @bZ 31 (by decide)
 exact (iT (d:= .aA [.aj .tight 1 [.int .u8 15,.int .u8 5],.int .i64 0]) ([.ret _ _ _ c0,tF,.ret _ _ _ c1]++List.replicate 10 tF++ [tT]) (by kernel_rfl)).to (by (subst_vars;(try simp only [bu] at*);(try simp only [beq_iff_eq] at h);(try simp only [decide_eq_true_eq,decide_eq_false_iff_not] at*);simp_all [wk,aw,aM,aK,show ax 31=11 from rfl,bD,cf,cR,bB,dt];done))
theorem Ak (op:Int):0≤cq op∧cq op≤7:=by
 unfold cq
 repeat' split
 all_goals omega
theorem Ej {op w dst src base aa af cc:Int} (h:cg op w dst src base aa af cc=true):0≤cc∧cc≤15:=by
 have hs:=(dv h).2
 unfold hN at hs
 repeat' split at hs
 all_goals first|(cases hs;done)|(simp only [ff,Bool.and_eq_true,decide_eq_true_eq] at hs;omega)
theorem tx (op w dst src base aa af cc:Int) (ho:op≤127) (hm:cg op w dst src base aa af cc=true):
  aE Tryz.prog 43 [xD op w dst src base aa af cc] (.aA [.aj .no 1 (bD (aK op w dst src base aa af cc)),.int .i64 0]):=by
 obtain ⟨⟨d0,d1,s0,s1,b0,b1,p0,p1,i0,i1⟩,hs⟩:=dv hm
 obtain ⟨c0,c1⟩:=Ej hm
 obtain ⟨n0,n1⟩:=Ak op
 have hsh:ax op≠0:=by
  intro e
  rw [e] at hs
  simp [hN] at hs
 obtain ⟨k,e⟩:=sG hsh
 have hin:decide (0≤op∧op≤31)=true:=by rw [e];simp;omega
 have hr:=iO k
 rw [← e] at hr
 rcases hr with h|h|h|h|h|h|h|h|h|h|h
 ·exact xE _ _ _ _ _ _ _ _ ho d0 d1 s0 s1 b0 b1 p0 p1 i0 i1 c0 c1 n0 n1 (by rw [h];rfl) hin hm
 ·have e2:op=16:=by
   rw [e] at h ⊢
   revert h
   exact (by decide+kernel:∀n:Fin 32,ax (n.val:Int)=2→(n.val:Int)=16) k
  subst e2
  exact tJ _ _ _ _ _ _ _ d0 d1 s0 s1 b0 b1 p0 p1 i0 i1 c0 c1 hm
 ·exact xC _ _ _ _ _ _ _ _ ho d0 d1 s0 s1 b0 b1 p0 p1 i0 i1 c0 c1 n0 n1 (by rw [h];rfl) hin (jN (by rw [h] at hs;simp [hN] at hs;exact hs.1)) hm
 ·exact xB _ _ _ _ _ _ _ _ ho d0 d1 s0 s1 b0 b1 p0 p1 i0 i1 c0 c1 n0 n1 (by rw [h];rfl) hin hm
 ·exact xA _ _ _ _ _ _ _ _ ho d0 d1 s0 s1 b0 b1 p0 p1 i0 i1 c0 c1 n0 n1 (by rw [h];rfl) hin hm
 ·have e2:op=25:=by rw [e] at h ⊢;exact sy k h
  subst e2
  exact tI _ _ _ _ _ _ _ d0 d1 s0 s1 b0 b1 p0 p1 i0 i1 c0 c1 hm
 ·have e2:op=26:=by rw [e] at h ⊢;exact sw k h
  subst e2
  exact tH _ _ _ _ _ _ _ d0 d1 s0 s1 b0 b1 p0 p1 i0 i1 c0 c1 hm
 ·have e2:op=27:=by rw [e] at h ⊢;exact sv k h
  subst e2
  exact tG _ _ _ _ _ _ _ d0 d1 s0 s1 b0 b1 p0 p1 i0 i1 c0 c1 hm
 ·have e2:op=28:=by rw [e] at h ⊢;exact su k h
  subst e2
  exact tE _ _ _ _ _ _ _ d0 d1 s0 s1 b0 b1 p0 p1 i0 i1 c0 c1 hm
 ·have e2:op=29:=by rw [e] at h ⊢;exact o5 k h
  subst e2
  exact tD _ _ _ _ _ _ _ d0 d1 s0 s1 b0 b1 p0 p1 i0 i1 c0 c1 hm
 ·rcases oZ k (by rw [e] at h;exact h) with e2|e2
  ·rw [← e] at e2;subst e2
   exact tB _ _ _ _ _ _ _ d0 d1 s0 s1 b0 b1 p0 p1 i0 i1 c0 c1 hm
  ·rw [← e] at e2;subst e2
   exact tA _ _ _ _ _ _ _ d0 d1 s0 s1 b0 b1 p0 p1 i0 i1 c0 c1 hm
theorem vD (op w dst src base aa af cc:Int) (ho:op≤127) (hm:cg op w dst src base aa af cc=false):aE Tryz.prog 43 ([xD op w dst src base aa af cc]) (.aA [.aj .no 1 [],.int .i64 2]):=by
 have c0:= @aJ op w dst src base aa af cc ho
 rw [show (cg op w dst src base aa af cc)=false from hm] at c0
 exact (iT (d:= .aA [.aj .tight 0 [],.int .i64 2]) [.ret _ _ _ c0,tT] (by kernel_rfl)).to (by simp [wk,aw,aM])
theorem il (op w dst src base aa af cc:Int) (ho:op≤127):aE Tryz.prog 43 [xD op w dst src base aa af cc] (.aA [.aj .no 1 (qd op w dst src base aa af cc),.int .i64 (xF op w dst src base aa af cc)]):=by
 unfold qd xF
 cases h:cg op w dst src base aa af cc
 ·exact vD op w dst src base aa af cc ho h
 ·exact tx op w dst src base aa af cc ho h
theorem bU (op w dst src base aa af cc:Int) (ho:op≤127):aE Tryz.prog 116 ([xD op w dst src base aa af cc]) (.int .i64 (dz op w dst src base aa af cc)):=by
 have c0:= @il op w dst src base aa af cc ho
 exact (HJ (d:= .int .i64 (↑(List.length (qd op w dst src base aa af cc)):Int)) [.ret _ _ _ c0] (by kernel_rfl)).to (by simp [wk,dz])
theorem FJ (b:List Int) (s:au):bF Tryz.prog (eJ Tryz.f141 0) ⟨[],[1,2,3,5],[]⟩ 9 [D.iq 5,.ptr false 4 0,uu,.ptr false 7 0,uu,uu,uu,uu,uu,uu,uu,uu,uu,uu,uu,.agg ia,.int .i64 32,uu,uu,uu,uu,uu,uu,uu,uu,uu,uu,uu,uu,uu,uu,uu,uu] [.box [.aj .no 1 (bD b)],.box [.int .i8 0,.int .i8 0,.int .i8 0,.int .i8 0,.int .i8 0,.int .i64 0,.int .i64 0,.int .i8 0],.box [.int .i64 0],.box [.int .i64 0],.box [.aj .no 1 (bD b)],
 Ob.lp Lk.ready
  (let y:=
   let y:=
    let y:= [uu,uu,uu,uu,uu];
    uu::uu::uu::uu::uu::y;
   let y:=uu::uu::uu::uu::uu::y;
   uu::uu::uu::uu::uu::y;
  let y:=
   let y:=uu::uu::uu::uu::uu::y;
   uu::uu::uu::uu::uu::y;
  let y:= .ptr false 3 0::uu::uu::uu::uu::y;
  uu:: .ptr false 0 0:: .ptr false 1 0:: .ptr false 2 0::y)
  #[10] (dq Tryz.f81 0) (dp Tryz.f81 0),
 .dead,.box [.int .i8 (au.w s),.bool (au.dQ s),.int .u8 (au.code s),.int .i8 (au.r s),.int .i8 (au.m s),.int .i64 (au.aa s),.int .i64 (au.af s),.int .i64 (au.small s),.int .i64 (au.eE s),.int .i64 (au.e9 s),.int .i8 (au.high s)],.dead] (Ex.exit 0) [uu,uu,uu,uu,uu,uu,uu,uu,uu,uu,uu,uu,uu,uu,uu,uu,uu,uu,uu,uu,uu,uu,uu,uu,uu,uu,uu,uu,uu,uu,uu,uu,uu] ([.dead,.box [.int .i8 0,.int .i8 0,.int .i8 0,.int .i8 0,.int .i8 0,.int .i64 0,.int .i64 0,.int .i8 0],.box [.int .i64 0],.box [.int .i64 0],.dead,Ob.lp Lk.ready [uu,.ptr false 0 0,.ptr false 1 0,.ptr false 2 0,.ptr false 3 0,uu,uu,uu,uu,uu,uu,uu,uu,uu,uu,uu,uu,uu,uu,uu,uu,uu,uu,uu,uu,uu,uu,uu,uu,uu,uu,uu,uu,uu,uu,uu,uu,uu,uu] #[10] (dq Tryz.f81 0) (dp Tryz.f81 0),.dead,.dead,.dead]):=by
 exact bF.ae mixed [tF] (by kernel_rfl)
theorem FH (b own:List Int) (s:au) (k:Int) (k0:0≤k) (k1:k≤31) (v0:0≤s.code) (v1:s.code≤255) (hh:s.high=0∨s.high=8) (hy:aE Tryz.prog 72 [j9 (eg s k)] (.bool false)):bF Tryz.prog (eJ Tryz.f141 0) ⟨[0,1,3,15,16],[0,1,2,3,4,5,7],[]⟩ 9 [D.iq 5,.ptr false 4 0,uu,.ptr false 7 0,uu,uu,uu,uu,uu,uu,uu,uu,uu,uu,uu,.agg ia,.int .i64 k,uu,uu,uu,uu,uu,uu,uu,uu,uu,uu,uu,uu,uu,uu,uu,uu] [.box [.aj .no 1 (bD b)],.box [.int .i8 0,.int .i8 0,.int .i8 0,.int .i8 0,.int .i8 0,.int .i64 0,.int .i64 0,.int .i8 0],.box [.int .i64 0],.box [.int .i64 0],.box [.aj .no 1 (bD b)],
 Ob.lp Lk.ready
  (let y:=
   let y:=
    let y:= [uu,uu,uu,uu,uu];
    uu::uu::uu::uu::uu::y;
   let y:=uu::uu::uu::uu::uu::y;
   uu::uu::uu::uu::uu::y;
  let y:=
   let y:=uu::uu::uu::uu::uu::y;
   uu::uu::uu::uu::uu::y;
  let y:= .ptr false 3 0::uu::uu::uu::uu::y;
  uu:: .ptr false 0 0:: .ptr false 1 0:: .ptr false 2 0::y)
  #[10] (dq Tryz.f81 0) (dp Tryz.f81 0),
 .dead,.box [.int .i8 (au.w s),.bool (au.dQ s),.int .u8 (au.code s),.int .i8 (au.r s),.int .i8 (au.m s),.int .i64 (au.aa s),.int .i64 (au.af s),.int .i64 (au.small s),.int .i64 (au.eE s),.int .i64 (au.e9 s),.int .i8 (au.high s)],.dead] .norm [D.iq 5,.ptr false 4 0,uu,.ptr false 7 0,uu,uu,uu,uu,uu,uu,uu,uu,uu,uu,uu,.agg ia,.int .i64 (IntKind.i64.wrap (k+1)),uu,uu,uu,uu,uu,uu,uu,uu,uu,uu,uu,uu,uu,uu,uu,uu] ([.box [.aj .no 1 (bD b)],.box [.int .i8 0,.int .i8 0,.int .i8 0,.int .i8 0,.int .i8 0,.int .i64 0,.int .i64 0,.int .i8 0],.box [.int .i64 0],.box [.int .i64 0],.box [.aj .no 1 (bD b)],.lp .ready [uu,.ptr false 0 0,.ptr false 1 0,.ptr false 2 0,.ptr false 3 0,uu,uu,uu,uu,uu,uu,uu,uu,uu,uu,uu,uu,uu,uu,uu,uu,uu,uu,uu,uu,uu,uu,uu,uu,uu,uu,uu,uu,uu,uu,uu,uu,uu,uu] #[10] (dq Tryz.f81 0) (dp Tryz.f81 0),.dead,.box [.int .i8 (au.w s),.bool (au.dQ s),.int .u8 (au.code s),.int .i8 (au.r s),.int .i8 (au.m s),.int .i64 (au.aa s),.int .i64 (au.af s),.int .i64 (au.small s),.int .i64 (au.eE s),.int .i64 (au.e9 s),.int .i8 (au.high s)],.dead]):=by
 exact bF.ae mixed [tC (decide_eq_true (Int.lt_add_one_of_le k1)),.cU (decide (0≤k∧k<(↑(32:Nat):Int))) true (by (simp only [dK] at*;omega)),.dX _ _ _ _ (@mB k k0 k1),.aC _ _ _ _ _ (@yK s k k0 k1 v0 v1 hh (.box [.aj .no 1 (bD b)]) (.box [.int .i8 0,.int .i8 0,.int .i8 0,.int .i8 0,.int .i8 0,.int .i64 0,.int .i64 0,.int .i8 0]) (.box [.int .i64 0]) (.box [.int .i64 0]) (.box [.aj .no 1 (bD b)]) (Ob.lp Lk.ready [uu,.ptr false 0 0,.ptr false 1 0,.ptr false 2 0,.ptr false 3 0,uu,uu,uu,uu,uu,uu,uu,uu,uu,uu,uu,uu,uu,uu,uu,uu,uu,uu,uu,uu,uu,uu,uu,uu,uu,uu,uu,uu,uu,uu,uu,uu,uu,uu] #[10] (dq Tryz.f81 0) (dp Tryz.f81 0)) (.dead) (.dead) (.box [.int .i8 (ax k),.int .u8 (bc k),.int .i8 (cq k)])),.ret _ _ _ hy,tF,tF,tF,tF,tF,tF] (by kernel_rfl)
theorem D0 (b own:List Int) (s:au) (k:Int) (k0:0≤k) (k1:k≤31) (v0:0≤s.code) (v1:s.code≤255) (hh:s.high=0∨s.high=8) (hy:aE Tryz.prog 72 [j9 (eg s k)] (.bool true)) (hb:aE Tryz.prog 43 [j9 (eg s k)] (.aA [.aj .no 1 (bD own),.int .i64 0])) (hl:((bD b).length:Int)<((bD own).length:Int)):bF Tryz.prog (eJ Tryz.f141 0) ⟨[0,1,3,15,16],[0,1,2,3,4,5,7],[]⟩ 9 [D.iq 5,.ptr false 4 0,uu,.ptr false 7 0,uu,uu,uu,uu,uu,uu,uu,uu,uu,uu,uu,.agg ia,.int .i64 k,uu,uu,uu,uu,uu,uu,uu,uu,uu,uu,uu,uu,uu,uu,uu,uu] [.box [.aj .no 1 (bD b)],.box [.int .i8 0,.int .i8 0,.int .i8 0,.int .i8 0,.int .i8 0,.int .i64 0,.int .i64 0,.int .i8 0],.box [.int .i64 0],.box [.int .i64 0],.box [.aj .no 1 (bD b)],
 Ob.lp Lk.ready
  (let y:=
   let y:=
    let y:= [uu,uu,uu,uu,uu];
    uu::uu::uu::uu::uu::y;
   let y:=uu::uu::uu::uu::uu::y;
   uu::uu::uu::uu::uu::y;
  let y:=
   let y:=uu::uu::uu::uu::uu::y;
   uu::uu::uu::uu::uu::y;
  let y:= .ptr false 3 0::uu::uu::uu::uu::y;
  uu:: .ptr false 0 0:: .ptr false 1 0:: .ptr false 2 0::y)
  #[10] (dq Tryz.f81 0) (dp Tryz.f81 0),
 .dead,.box [.int .i8 (au.w s),.bool (au.dQ s),.int .u8 (au.code s),.int .i8 (au.r s),.int .i8 (au.m s),.int .i64 (au.aa s),.int .i64 (au.af s),.int .i64 (au.small s),.int .i64 (au.eE s),.int .i64 (au.e9 s),.int .i8 (au.high s)],.dead] .norm [D.iq 5,.ptr false 4 0,uu,.ptr false 7 0,uu,uu,uu,uu,uu,uu,uu,uu,uu,uu,uu,.agg ia,.int .i64 (IntKind.i64.wrap (k+1)),uu,uu,uu,uu,uu,uu,uu,uu,uu,uu,uu,uu,uu,uu,uu,uu] ([.box [.aj .no 1 (bD b)],.box [.int .i8 0,.int .i8 0,.int .i8 0,.int .i8 0,.int .i8 0,.int .i64 0,.int .i64 0,.int .i8 0],.box [.int .i64 0],.box [.int .i64 0],.box [.aj .no 1 (bD b)],.lp .ready [uu,.ptr false 0 0,.ptr false 1 0,.ptr false 2 0,.ptr false 3 0,uu,uu,uu,uu,uu,uu,uu,uu,uu,uu,uu,uu,uu,uu,uu,uu,uu,uu,uu,uu,uu,uu,uu,uu,uu,uu,uu,uu,uu,uu,uu,uu,uu,uu] #[10] (dq Tryz.f81 0) (dp Tryz.f81 0),.dead,.box [.int .i8 (au.w s),.bool (au.dQ s),.int .u8 (au.code s),.int .i8 (au.r s),.int .i8 (au.m s),.int .i64 (au.aa s),.int .i64 (au.af s),.int .i64 (au.small s),.int .i64 (au.eE s),.int .i64 (au.e9 s),.int .i8 (au.high s)],.dead]):=by
 exact bF.ae mixed ([tC (decide_eq_true (Int.lt_add_one_of_le k1)),.cU (decide (0≤k∧k<(↑(32:Nat):Int))) true (by (simp only [dK] at*;omega)),.dX _ _ _ _ (@mB k k0 k1),.aC _ _ _ _ _ (@yK s k k0 k1 v0 v1 hh (.box [.aj .no 1 (bD b)]) (.box [.int .i8 0,.int .i8 0,.int .i8 0,.int .i8 0,.int .i8 0,.int .i64 0,.int .i64 0,.int .i8 0]) (.box [.int .i64 0]) (.box [.int .i64 0]) (.box [.aj .no 1 (bD b)]) (Ob.lp Lk.ready [uu,.ptr false 0 0,.ptr false 1 0,.ptr false 2 0,.ptr false 3 0,uu,uu,uu,uu,uu,uu,uu,uu,uu,uu,uu,uu,uu,uu,uu,uu,uu,uu,uu,uu,uu,uu,uu,uu,uu,uu,uu,uu,uu,uu,uu,uu,uu,uu] #[10] (dq Tryz.f81 0) (dp Tryz.f81 0)) (.dead) (.dead) (.box [.int .i8 (ax k),.int .u8 (bc k),.int .i8 (cq k)])),.ret _ _ _ hy,tT,tT,tT,.inl,.ret _ _ _ hb,tT,tT,tT,tT,tT,tT]++ [tC (eT (by (simp only [dK] at*;omega):(decide ((↑(List.length (bD own)):Int)≤(↑(List.length (bD b)):Int)))=false)),tC (eT (by (simp only [dK] at*;omega):(decide ((↑(List.length (bD own)):Int)≤(↑(List.length (bD b)):Int)))=false)),tC (eT (by (simp only [dK] at*;omega):(decide ((↑(List.length (bD own)):Int)≤(↑(List.length (bD b)):Int)))=false)),tC (eT (by (simp only [dK] at*;omega):(decide ((↑(List.length (bD own)):Int)≤(↑(List.length (bD b)):Int)))=false)),tC (eT (by (simp only [dK] at*;omega):(decide ((↑(List.length (bD own)):Int)≤(↑(List.length (bD b)):Int)))=false)),tC (eT (by (simp only [dK] at*;omega):(decide ((↑(List.length (bD own)):Int)≤(↑(List.length (bD b)):Int)))=false)),tC (eT (by (simp only [dK] at*;omega):(decide ((↑(List.length (bD own)):Int)≤(↑(List.length (bD b)):Int)))=false)),tC (eT (by (simp only [dK] at*;omega):(decide ((↑(List.length (bD own)):Int)≤(↑(List.length (bD b)):Int)))=false)),tC (by (simp only [dK] at*;omega):(decide ((↑(List.length (bD own)):Int)≤(↑(List.length (bD b)):Int)))=false),tF,tT,tT,tF]) (by kernel_rfl)
theorem FG (b own:List Int) (s:au) (k:Int) (k0:0≤k) (k1:k≤31) (v0:0≤s.code) (v1:s.code≤255) (hh:s.high=0∨s.high=8) (hy:aE Tryz.prog 72 [j9 (eg s k)] (.bool true)) (hb:aE Tryz.prog 43 [j9 (eg s k)] (.aA [.aj .no 1 (bD own),.int .i64 0])) (hl:((bD own).length:Int)≤((bD b).length:Int)) (hs:((je (bD own)).toList==(je (List.take (Int.toNat ((List.length (bD own):Nat):Int)) (bD b))).toList)=false):bF Tryz.prog (eJ Tryz.f141 0) ⟨[0,1,3,15,16],[0,1,2,3,4,5,7],[]⟩ 9 [D.iq 5,.ptr false 4 0,uu,.ptr false 7 0,uu,uu,uu,uu,uu,uu,uu,uu,uu,uu,uu,.agg ia,.int .i64 k,uu,uu,uu,uu,uu,uu,uu,uu,uu,uu,uu,uu,uu,uu,uu,uu] [.box [.aj .no 1 (bD b)],.box [.int .i8 0,.int .i8 0,.int .i8 0,.int .i8 0,.int .i8 0,.int .i64 0,.int .i64 0,.int .i8 0],.box [.int .i64 0],.box [.int .i64 0],.box [.aj .no 1 (bD b)],
 Ob.lp Lk.ready
  (let y:=
   let y:=
    let y:= [uu,uu,uu,uu,uu];
    uu::uu::uu::uu::uu::y;
   let y:=uu::uu::uu::uu::uu::y;
   uu::uu::uu::uu::uu::y;
  let y:=
   let y:=uu::uu::uu::uu::uu::y;
   uu::uu::uu::uu::uu::y;
  let y:= .ptr false 3 0::uu::uu::uu::uu::y;
  uu:: .ptr false 0 0:: .ptr false 1 0:: .ptr false 2 0::y)
  #[10] (dq Tryz.f81 0) (dp Tryz.f81 0),
 .dead,.box [.int .i8 (au.w s),.bool (au.dQ s),.int .u8 (au.code s),.int .i8 (au.r s),.int .i8 (au.m s),.int .i64 (au.aa s),.int .i64 (au.af s),.int .i64 (au.small s),.int .i64 (au.eE s),.int .i64 (au.e9 s),.int .i8 (au.high s)],.dead] .norm [D.iq 5,.ptr false 4 0,uu,.ptr false 7 0,uu,uu,uu,uu,uu,uu,uu,uu,uu,uu,uu,.agg ia,.int .i64 (IntKind.i64.wrap (k+1)),uu,uu,uu,uu,uu,uu,uu,uu,uu,uu,uu,uu,uu,uu,uu,uu] ([.box [.aj .no 1 (bD b)],.box [.int .i8 0,.int .i8 0,.int .i8 0,.int .i8 0,.int .i8 0,.int .i64 0,.int .i64 0,.int .i8 0],.box [.int .i64 0],.box [.int .i64 0],.box [.aj .no 1 (bD b)],.lp .ready [uu,.ptr false 0 0,.ptr false 1 0,.ptr false 2 0,.ptr false 3 0,uu,uu,uu,uu,uu,uu,uu,uu,uu,uu,uu,uu,uu,uu,uu,uu,uu,uu,uu,uu,uu,uu,uu,uu,uu,uu,uu,uu,uu,uu,uu,uu,uu,uu] #[10] (dq Tryz.f81 0) (dp Tryz.f81 0),.dead,.box [.int .i8 (au.w s),.bool (au.dQ s),.int .u8 (au.code s),.int .i8 (au.r s),.int .i8 (au.m s),.int .i64 (au.aa s),.int .i64 (au.af s),.int .i64 (au.small s),.int .i64 (au.eE s),.int .i64 (au.e9 s),.int .i8 (au.high s)],.dead]):=by
 exact bF.ae mixed ([tC (decide_eq_true (Int.lt_add_one_of_le k1)),.cU (decide (0≤k∧k<(↑(32:Nat):Int))) true (by (simp only [dK] at*;omega)),.dX _ _ _ _ (@mB k k0 k1),.aC _ _ _ _ _ (@yK s k k0 k1 v0 v1 hh (.box [.aj .no 1 (bD b)]) (.box [.int .i8 0,.int .i8 0,.int .i8 0,.int .i8 0,.int .i8 0,.int .i64 0,.int .i64 0,.int .i8 0]) (.box [.int .i64 0]) (.box [.int .i64 0]) (.box [.aj .no 1 (bD b)]) (Ob.lp Lk.ready [uu,.ptr false 0 0,.ptr false 1 0,.ptr false 2 0,.ptr false 3 0,uu,uu,uu,uu,uu,uu,uu,uu,uu,uu,uu,uu,uu,uu,uu,uu,uu,uu,uu,uu,uu,uu,uu,uu,uu,uu,uu,uu,uu,uu,uu,uu,uu,uu] #[10] (dq Tryz.f81 0) (dp Tryz.f81 0)) (.dead) (.dead) (.box [.int .i8 (ax k),.int .u8 (bc k),.int .i8 (cq k)])),.ret _ _ _ hy,tT,tT,tT,.inl,.ret _ _ _ hb,tT,tT,tT,tT,tT,tT]++ [tC (eT (by (simp only [dK] at*;omega):(decide ((↑(List.length (bD own)):Int)≤(↑(List.length (bD b)):Int)))=true)),tC (eT (by (simp only [dK] at*;omega):(decide ((↑(List.length (bD own)):Int)≤(↑(List.length (bD b)):Int)))=true)),tC (v:=true) (@Gz own),tC (eT (by (simp only [dK] at*;omega):(decide ((↑(List.length (bD own)):Int)≤(↑(List.length (bD b)):Int)))=true)),tC (eT (by (simp only [dK] at*;omega):(decide ((↑(List.length (bD own)):Int)≤(↑(List.length (bD b)):Int)))=true)),tC (eT (by (simp only [dK] at*;omega):(decide ((↑(List.length (bD own)):Int)≤(↑(List.length (bD b)):Int)))=true)),tC (eT (by (simp only [dK] at*;omega):(decide ((↑(List.length (bD own)):Int)≤(↑(List.length (bD b)):Int)))=true)),.cU (decide (0≤(↑(List.length (bD own)):Int)∧(↑(List.length (bD own)):Int)≤(↑(List.length (bD b)):Int))) true (by (simp only [dK] at*;omega)),tC (eT (by (simp only [dK] at*;omega):(decide ((↑(List.length (bD own)):Int)≤(↑(List.length (bD b)):Int)))=true)),tC (v:=true) (@rJ b (Int.toNat (↑(List.length (bD own)):Int))),tC (eT (by (simp only [dK] at*;omega):(decide ((↑(List.length (bD own)):Int)≤(↑(List.length (bD b)):Int)))=true)),tC (by (simp only [dK] at*;omega):(decide ((↑(List.length (bD own)):Int)≤(↑(List.length (bD b)):Int)))=true),tC hs,tT,tT,tF]) (by kernel_rfl)
theorem FI (b own:List Int) (s:au) (k:Int) (k0:0≤k) (k1:k≤31) (v0:0≤s.code) (v1:s.code≤255) (hh:s.high=0∨s.high=8) (hy:aE Tryz.prog 72 [j9 (eg s k)] (.bool true)) (hb:aE Tryz.prog 43 [j9 (eg s k)] (.aA [.aj .no 1 (bD own),.int .i64 0])) (hl:((bD own).length:Int)≤((bD b).length:Int)) (hs:((je (bD own)).toList==(je (List.take (Int.toNat ((List.length (bD own):Nat):Int)) (bD b))).toList)=true):bF Tryz.prog (eJ Tryz.f141 0) ⟨[],[1,2,3,5],[]⟩ 9 [D.iq 5,.ptr false 4 0,uu,.ptr false 7 0,uu,uu,uu,uu,uu,uu,uu,uu,uu,uu,uu,.agg ia,.int .i64 k,uu,uu,uu,uu,uu,uu,uu,uu,uu,uu,uu,uu,uu,uu,uu,uu] [.box [.aj .no 1 (bD b)],.box [.int .i8 0,.int .i8 0,.int .i8 0,.int .i8 0,.int .i8 0,.int .i64 0,.int .i64 0,.int .i8 0],.box [.int .i64 0],.box [.int .i64 0],.box [.aj .no 1 (bD b)],
 Ob.lp Lk.ready
  (let y:=
   let y:=
    let y:= [uu,uu,uu,uu,uu];
    uu::uu::uu::uu::uu::y;
   let y:=uu::uu::uu::uu::uu::y;
   uu::uu::uu::uu::uu::y;
  let y:=
   let y:=uu::uu::uu::uu::uu::y;
   uu::uu::uu::uu::uu::y;
  let y:= .ptr false 3 0::uu::uu::uu::uu::y;
  uu:: .ptr false 0 0:: .ptr false 1 0:: .ptr false 2 0::y)
  #[10] (dq Tryz.f81 0) (dp Tryz.f81 0),
 .dead,.box [.int .i8 (au.w s),.bool (au.dQ s),.int .u8 (au.code s),.int .i8 (au.r s),.int .i8 (au.m s),.int .i64 (au.aa s),.int .i64 (au.af s),.int .i64 (au.small s),.int .i64 (au.eE s),.int .i64 (au.e9 s),.int .i8 (au.high s)],.dead] (Ex.ret) [uu,uu,uu,uu,uu,uu,uu,uu,uu,uu,uu,uu,uu,uu,uu,uu,uu,uu,uu,uu,uu,uu,uu,uu,uu,uu,uu,uu,uu,uu,uu,uu,uu] ([.dead,.box [.int .i8 (XS.op (eg s k)),.int .i8 (XS.w (eg s k)),.int .i8 (XS.dst (eg s k)),.int .i8 (XS.src (eg s k)),.int .i8 (XS.base (eg s k)),.int .i64 (XS.aa (eg s k)),.int .i64 (XS.af (eg s k)),.int .i8 (XS.cc (eg s k))],.box [.int .i64 (↑(List.length (bD own)):Int)],.box [.int .i64 0],.dead,Ob.lp Lk.ret [uu,.ptr false 0 0,.ptr false 1 0,.ptr false 2 0,.ptr false 3 0,uu,uu,uu,uu,uu,uu,uu,uu,uu,uu,uu,uu,uu,uu,uu,uu,uu,uu,uu,uu,uu,uu,uu,uu,uu,uu,uu,uu,uu,uu,uu,uu,uu,uu] #[10] (dq Tryz.f81 0) (dp Tryz.f81 0),.dead,.dead,.dead]):=by
 exact bF.ae mixed ([tC (decide_eq_true (Int.lt_add_one_of_le k1)),.cU (decide (0≤k∧k<(↑(32:Nat):Int))) true (by (simp only [dK] at*;omega)),.dX _ _ _ _ (@mB k k0 k1),.aC _ _ _ _ _ (@yK s k k0 k1 v0 v1 hh (.box [.aj .no 1 (bD b)]) (.box [.int .i8 0,.int .i8 0,.int .i8 0,.int .i8 0,.int .i8 0,.int .i64 0,.int .i64 0,.int .i8 0]) (.box [.int .i64 0]) (.box [.int .i64 0]) (.box [.aj .no 1 (bD b)]) (Ob.lp Lk.ready [uu,.ptr false 0 0,.ptr false 1 0,.ptr false 2 0,.ptr false 3 0,uu,uu,uu,uu,uu,uu,uu,uu,uu,uu,uu,uu,uu,uu,uu,uu,uu,uu,uu,uu,uu,uu,uu,uu,uu,uu,uu,uu,uu,uu,uu,uu,uu,uu] #[10] (dq Tryz.f81 0) (dp Tryz.f81 0)) (.dead) (.dead) (.box [.int .i8 (ax k),.int .u8 (bc k),.int .i8 (cq k)])),.ret _ _ _ hy,tT,tT,tT,.inl,.ret _ _ _ hb,tT,tT,tT,tT,tT,tT]++ [tC (eT (by (simp only [dK] at*;omega):(decide ((↑(List.length (bD own)):Int)≤(↑(List.length (bD b)):Int)))=true)),tC (eT (by (simp only [dK] at*;omega):(decide ((↑(List.length (bD own)):Int)≤(↑(List.length (bD b)):Int)))=true)),tC (v:=true) (@Gz own),tC (eT (by (simp only [dK] at*;omega):(decide ((↑(List.length (bD own)):Int)≤(↑(List.length (bD b)):Int)))=true)),tC (eT (by (simp only [dK] at*;omega):(decide ((↑(List.length (bD own)):Int)≤(↑(List.length (bD b)):Int)))=true)),tC (eT (by (simp only [dK] at*;omega):(decide ((↑(List.length (bD own)):Int)≤(↑(List.length (bD b)):Int)))=true)),tC (eT (by (simp only [dK] at*;omega):(decide ((↑(List.length (bD own)):Int)≤(↑(List.length (bD b)):Int)))=true)),.cU (decide (0≤(↑(List.length (bD own)):Int)∧(↑(List.length (bD own)):Int)≤(↑(List.length (bD b)):Int))) true (by (simp only [dK] at*;omega)),tC (eT (by (simp only [dK] at*;omega):(decide ((↑(List.length (bD own)):Int)≤(↑(List.length (bD b)):Int)))=true)),tC (v:=true) (@rJ b (Int.toNat (↑(List.length (bD own)):Int))),tC (eT (by (simp only [dK] at*;omega):(decide ((↑(List.length (bD own)):Int)≤(↑(List.length (bD b)):Int)))=true)),tC (by (simp only [dK] at*;omega):(decide ((↑(List.length (bD own)):Int)≤(↑(List.length (bD b)):Int)))=true),tC hs,tT,tT,tT]) (by kernel_rfl)
abbrev gT (n:Int):List D:= [.iq 5,.ptr false 4 0,.undef,.ptr false 7 0,.undef,.undef,.undef,.undef,.undef,.undef,.undef,.undef,.undef,.undef,.undef,.agg ia,.int .i64 n,.undef,.undef,.undef,.undef,.undef,.undef,.undef,.undef,.undef,.undef,.undef,.undef,.undef,.undef,.undef,.undef]
abbrev gU:List D:= [.undef,.undef,.undef,.undef,.undef,.undef,.undef,.undef,.undef,.undef,.undef,.undef,.undef,.undef,.undef,.undef,.undef,.undef,.undef,.undef,.undef,.undef,.undef,.undef,.undef,.undef,.undef,.undef,.undef,.undef,.undef,.undef,.undef]
abbrev HP (ag bd:Code) (k:Lk):Ob:= .lp k [.undef,.ptr false 0 0,.ptr false 1 0,.ptr false 2 0,.ptr false 3 0,.undef,.undef,.undef,.undef,.undef,.undef,.undef,.undef,.undef,.undef,.undef,.undef,.undef,.undef,.undef,.undef,.undef,.undef,.undef,.undef,.undef,.undef,.undef,.undef,.undef,.undef,.undef,.undef,.undef,.undef,.undef,.undef,.undef,.undef] #[10] ag bd
abbrev H5:Ob:= .box [.int .i8 0,.int .i8 0,.int .i8 0,.int .i8 0,.int .i8 0,.int .i64 0,.int .i64 0,.int .i8 0]
abbrev gS (ag bd:Code) (b:List Int) (s:au):List Ob:= [.box [.aj .no 1 (bD b)],H5,.box [.int .i64 0],.box [.int .i64 0],.box [.aj .no 1 (bD b)],HP ag bd .ready,.dead,
  .box [.int .i8 s.w,.bool s.dQ,.int .u8 s.code,.int .i8 s.r,.int .i8 s.m,.int .i64 s.aa,.int .i64 s.af,.int .i64 s.small,.int .i64 s.eE,.int .i64 s.e9,.int .i8 s.high],.dead]
abbrev H6:Option XS→Ex
  |none=> .exit 0
  |some _=> .ret
abbrev Ey (ag bd:Code):Option XS→List Ob
  |none=> [.dead,H5,.box [.int .i64 0],.box [.int .i64 0],.dead,HP ag bd .ready,.dead,.dead,.dead]
  |some x=> [.dead,.box [.int .i8 x.op,.int .i8 x.w,.int .i8 x.dst,.int .i8 x.src,.int .i8 x.base,.int .i64 x.aa,.int .i64 x.af,.int .i8 x.cc],.box [.int .i64 (fm x).length],.box [.int .i64 0],.dead,HP ag bd .ret,.dead,.dead,.dead]
theorem jO (b:List Int) (hb:gQ b) (s:au) (v0:0≤s.code) (v1:s.code≤255) (hh:s.high=0∨s.high=8):∀(m n:Nat),n+m=32→
  cK Tryz.prog (eJ Tryz.f141 0) 9 (gT n) (gS (dq Tryz.f81 0) (dp Tryz.f81 0) b s) (H6 (eA b s (gv.drop n))) gU (Ey (dq Tryz.f81 0) (dp Tryz.f81 0) (eA b s (gv.drop n)))
 |0,n,hn=>by
  obtain rfl:n=32:=by omega
  exact cK.last (FJ b s) (fun h=>by cases h)
 |m+1,n,hn=>by
  have hlt:n<32:=by omega
  rw [Ci hlt]
  have hop:=Gt s (n:Int)
  have hle:(eg s (n:Int)).op≤127:=by rw [hop];omega
  have hw:IntKind.i64.wrap ((n:Int)+1)=((n+1:Nat):Int):=by rw [ct];omega
  have ih:=jO b hb s v0 v1 hh m (n+1) (by omega)
  have hy:aE Tryz.prog 72 [j9 (eg s (n:Int))] (.bool (uW (eg s (n:Int)))):=aJ _ _ _ _ _ _ _ _ hle
  have go:∀ {t2:List D} {s2:List Ob},bF Tryz.prog (eJ Tryz.f141 0) ⟨[0,1,3,15,16],[0,1,2,3,4,5,7],[]⟩ 9 (gT n) (gS (dq Tryz.f81 0) (dp Tryz.f81 0) b s) .norm (gT (IntKind.i64.wrap ((n:Int)+1))) (gS (dq Tryz.f81 0) (dp Tryz.f81 0) b s)→jy b (eg s (n:Int))=false→
    cK Tryz.prog (eJ Tryz.f141 0) 9 (gT n) (gS (dq Tryz.f81 0) (dp Tryz.f81 0) b s) (H6 (eA b s ((n:Int)::gv.drop (n+1)))) gU (Ey (dq Tryz.f81 0) (dp Tryz.f81 0) (eA b s ((n:Int)::gv.drop (n+1)))):=by
   intro _ _ h hf
   have e:eA b s ((n:Int)::gv.drop (n+1))=eA b s (gv.drop (n+1)):=by simp only [eA,hf,Bool.false_eq_true,if_false]
   rw [e]
   rw [hw] at h
   exact cK.iM h ih
  cases hm:uW (eg s (n:Int)) with
  |false=>
   rw [hm] at hy
   exact go (t2:= []) (s2:= []) (FH b [] s n (by omega) (by omega) v0 v1 hh hy) (by simp [jy,hm])
  |true=>
   rw [hm] at hy
   have ho:=vE hm
   have hbt:aE Tryz.prog 43 [j9 (eg s (n:Int))] (.aA [.aj .no 1 (bD (fm (eg s (n:Int)))),.int .i64 0]):=by
    have:=il (eg s (n:Int)).op (eg s (n:Int)).w (eg s (n:Int)).dst (eg s (n:Int)).src (eg s (n:Int)).base (eg s (n:Int)).aa (eg s (n:Int)).af (eg s (n:Int)).cc hle
    have hm':cg (eg s (n:Int)).op (eg s (n:Int)).w (eg s (n:Int)).dst (eg s (n:Int)).src (eg s (n:Int)).base (eg s (n:Int)).aa (eg s (n:Int)).af (eg s (n:Int)).cc=true:=hm
    simp only [qd,xF,hm',if_true] at this
    exact this
   have hfit:=Ez ho hb
   by_cases hp:(fm (eg s (n:Int))).isPrefixOf b=true
   ·obtain ⟨h1,h2⟩:=hfit.1 hp
    have e:eA b s ((n:Int)::gv.drop (n+1))=some (eg s (n:Int)):=by simp only [eA,jy,hm,hp,Bool.and_self,if_true]
    rw [e]
    have:=FI b (fm (eg s (n:Int))) s n (by omega) (by omega) v0 v1 hh hy hbt h1 h2
    rw [aN] at this
    exact cK.last this (fun h=>by cases h)
   ·have hf:jy b (eg s (n:Int))=false:=by simp [jy,hm,hp]
    by_cases hl:((bD (fm (eg s (n:Int)))).length:Int)≤((bD b).length:Int)
    ·have hs:((je (bD (fm (eg s (n:Int))))).toList==(je (List.take (Int.toNat ((List.length (bD (fm (eg s (n:Int)))):Nat):Int)) (bD b))).toList)=false:=by
      cases e:((je (bD (fm (eg s (n:Int))))).toList==(je (List.take (Int.toNat ((List.length (bD (fm (eg s (n:Int)))):Nat):Int)) (bD b))).toList) with
      |false=>rfl
      |true=>exact absurd (hfit.2 ⟨hl,e⟩) hp
     exact go (t2:= []) (s2:= []) (FG b _ s n (by omega) (by omega) v0 v1 hh hy hbt hl hs) hf
    ·exact go (t2:= []) (s2:= []) (D0 b _ s n (by omega) (by omega) v0 v1 hh hy hbt (by omega)) hf
theorem wR (b:List Int) (hb:gQ b) (s:au) (v0:0≤s.code) (v1:s.code≤255) (hh:s.high=0∨s.high=8) (hf:eA b s gv=none):
  ea Tryz.prog 9 (.loop (eJ Tryz.f141 0)) (gT 0) (gS (dq Tryz.f81 0) (dp Tryz.f81 0) b s) (.exit 0) gU (Ey (dq Tryz.f81 0) (dp Tryz.f81 0) none):=by
 have h:=jO b hb s v0 v1 hh 32 0 rfl
 rw [List.drop_zero,hf] at h
 exact ea.gM (Nat.le_refl _) h
theorem wQ (b:List Int) (hb:gQ b) (s:au) (v0:0≤s.code) (v1:s.code≤255) (hh:s.high=0∨s.high=8) (x:XS) (hf:eA b s gv=some x):
  ea Tryz.prog 9 (.loop (eJ Tryz.f141 0)) (gT 0) (gS (dq Tryz.f81 0) (dp Tryz.f81 0) b s) .ret gU (Ey (dq Tryz.f81 0) (dp Tryz.f81 0) (some x)):=by
 have h:=jO b hb s v0 v1 hh 32 0 rfl
 rw [List.drop_zero,hf] at h
 exact ea.gM (Nat.le_refl _) h
theorem Cd (b:List Int) (s:au) (hp:aE Tryz.prog 142 [.aj .no 1 (bD b)] (.aA [cO s,.bool false])):aE Tryz.prog 81 ([.aj .no 1 (bD b)]) (.aA [xD 0 0 0 0 0 0 0 0,.int .i64 0,.int .i64 30]):=by
 exact (aE.ae (d:= .aA [(xD 0 0 0 0 0 0 0 0),.int .i64 0,.int .i64 30]) mixed Tryz.func81 (by kernel_rfl) [.inl,.Fi [1,2,3,4],.ret _ _ _ hp,tT] (by kernel_rfl)).to (by simp [wk,aw,j9])
theorem Cc (b:List Int) (hb:gQ b) (s:au) (v0:0≤s.code) (v1:s.code≤255) (hh:s.high=0∨s.high=8) (hp:aE Tryz.prog 142 [.aj .no 1 (bD b)] (.aA [cO s,.bool true])) (hf:eA b s gv=none):aE Tryz.prog 81 ([.aj .no 1 (bD b)]) (.aA [xD 0 0 0 0 0 0 0 0,.int .i64 0,.int .i64 30]):=by
 have c0:= @wR (b) hb (s) v0 v1 hh hf
 exact (aE.ae (d:= .aA [(xD 0 0 0 0 0 0 0 0),.int .i64 0,.int .i64 30]) mixed Tryz.func81 (by kernel_rfl) [.inl,.Fi [1,2,3,4],.ret _ _ _ hp,tF,.inl,.head ⟨[0,1,3,15,16],[0,1,2,3,4,5,7],[]⟩ _ _ _ _ _ _ _ c0] (by kernel_rfl)).to (by simp [wk,aw,j9])
theorem Cb (b:List Int) (hb:gQ b) (s:au) (v0:0≤s.code) (v1:s.code≤255) (hh:s.high=0∨s.high=8) (hp:aE Tryz.prog 142 [.aj .no 1 (bD b)] (.aA [cO s,.bool true])) (x:XS) (hf:eA b s gv=some x):aE Tryz.prog 81 ([.aj .no 1 (bD b)]) (.aA [j9 x,.int .i64 (fm x).length,.int .i64 0]):=by
 have c0:= @wQ (b) hb (s) v0 v1 hh _ hf
 exact (aE.ae (d:= .aA [(xD (XS.op x) (XS.w x) (XS.dst x) (XS.src x) (XS.base x) (XS.aa x) (XS.af x) (XS.cc x)),.int .i64 (↑(List.length (fm x)):Int),.int .i64 0]) mixed Tryz.func81 (by kernel_rfl) [.inl,.Fi [1,2,3,4],.ret _ _ _ hp,tF,.inl,.head ⟨[0,1,3,15,16],[0,1,2,3,4,5,7],[]⟩ _ _ _ _ _ _ _ c0] (by kernel_rfl)).to (by simp [wk,aw,j9])
theorem Ca (b:List Int) (hb:gQ b):aE Tryz.prog 81 [.aj .no 1 (bD b)] (GQ (mm b)):=by
 obtain ⟨s,hp,hs⟩:=Cf b hb
 cases e:jx b with
 |none=>
  rw [e] at hp
  rw [zr e]
  obtain ⟨x,hx⟩:∃x:au,x=⟨s.w,s.dQ,0,s.r,s.m,s.aa,s.af,s.small,s.eE,s.e9,s.high⟩:=⟨_,rfl⟩
  exact Cd b s hp
 |some s'=>
  obtain rfl:=hs s' e
  rw [e] at hp
  obtain ⟨v0,v1,hh⟩:=zM hb e
  rw [← wV e]
  cases hf:eA b s gv with
  |none=>exact Cc b hb s v0 v1 hh hp hf
  |some x=>exact Cb b hb s v0 v1 hh hp x hf
theorem xz:aE Tryz.prog 22 ([.aj .no 8 [xD 1 32 0 0 0 0 5 0,xD 30 0 0 0 0 0 0 0]]) (.aj (.fresh 1) 1 [.int .u8 184,.int .u8 5,.int .u8 0,.int .u8 0,.int .u8 0,.int .u8 195]):=by
 have c0:= @il ((1:Int)) ((32:Int)) ((0:Int)) ((0:Int)) ((0:Int)) ((0:Int)) ((5:Int)) ((0:Int)) (by first|rfl|decide)
 have c1:= @il ((30:Int)) ((0:Int)) ((0:Int)) ((0:Int)) ((0:Int)) ((0:Int)) ((0:Int)) ((0:Int)) (by first|rfl|decide)
 exact (aE.ae (d:= .aj (.fresh 1) 1 [.int .u8 184,.int .u8 5,.int .u8 0,.int .u8 0,.int .u8 0,.int .u8 195]) mixed Tryz.func22 (by kernel_rfl) [.go 64,tT,tT,.get ([(xD 1 32 0 0 0 0 5 0),(xD 30 0 0 0 0 0 0 0)]) 0 ((xD 1 32 0 0 0 0 5 0)) rfl,.ret _ _ _ c0,tF,.len ((5:Nat)) ((2147483648:Nat)) (by first|decide|omega|(simp;omega)),tT,tT,.get ([(xD 1 32 0 0 0 0 5 0),(xD 30 0 0 0 0 0 0 0)]) 1 ((xD 30 0 0 0 0 0 0 0)) rfl,.ret _ _ _ c1,tF,.len ((6:Nat)) ((2147483648:Nat)) (by first|decide|omega|(simp;omega)),tF] (by kernel_rfl)).to (by simp [wk,aw,aM])
end Go.Proofs.YtbfpahigdpigpaaGreat
namespace Go.Ev
open Go Go.RowKit Go.ChangeShapes Go.WideShapes
theorem lG {H:Type} {enc:TypeId×Value→H} {P:Program} (hl:laidOutB P=true) {W W':World} (hb:Below W.heap.size W W'):∀ {ts:List TypeId} {vs:List Value} {ds:List (DataW H)} {ps:List MemPlace},
  (∀t∈ts,P.readableRec t=true∧t<P.types.size)→DataW.TrodAll enc P W 0 (fun _=>true) true ts vs ds ps→(∀x∈ps,x.block<W.heap.size)→DataW.TrodAll enc P W' 0 (fun b=>decide (b<W.heap.size)) true ts vs ds ps
 | [],vs,ds,ps,_,h,_=>by
  obtain ⟨rfl,rfl,rfl⟩:=trodAll_nil h
  rfl
 |t::ts,vs,ds,ps,hr,h,hp=>by
  obtain ⟨v,vs',d,ds',p,q,rfl,rfl,rfl,h1,h2⟩:=trodAll_cons h
  have hrt:=hr t (by simp)
  exact ⟨p,q,Below.trod hl hrt.1 hrt.2 h1 hb (fun x hx=>hp x (by simp [hx])),lG hl hb (fun t ht=>hr t (by simp [ht])) h2 (fun x hx=>hp x (by simp [hx])),rfl⟩
theorem j2 {H:Type} {enc:TypeId×Value→H} {P:Program} {W:World} {b:Nat} {sp:Nat→Bool} {hd:Bool} :∀ {ts:List TypeId} {vs:List Value} {ds:List (DataW H)} {ps:List MemPlace},DataW.TrodAll enc P W b sp hd ts vs ds ps→vs.length=ts.length∧ds.length=ts.length
 | [],vs,ds,ps,h=>by
  obtain ⟨rfl,rfl,rfl⟩:=trodAll_nil h
  exact ⟨rfl,rfl⟩
 |t::ts,vs,ds,ps,h=>by
  obtain ⟨v,vs',d,ds',p,q,rfl,rfl,rfl,h1,h2⟩:=trodAll_cons h
  obtain ⟨k1,k2⟩:=j2 h2
  exact ⟨by simp [k1],by simp [k2]⟩
theorem wN {a:Assume} {H:Type} {enc:TypeId×Value→H} {C:Checked} {os:Os} {f:FuncId} {fn:Func} {s:ChangeSpec} {conds:List PathCond} {fresh handsOn:Bool} {tb:TypeId}
  (own:ownKnob C.prog.godebug=none) (started:os.Started) (noInit:C.prog.inits.idxOf? f=none) (hfn:C.prog.funcs[f]? =some fn) (hl:laidOutB C.prog=true) (hvars:s.vars= [])
  (hparams:∀t∈fn.params.toList,C.prog.readableRec t=true∧t<C.prog.types.size) (hres:fn.resultTypes= #[tb]) (htb:C.prog.underlying tb=some .bool)
  (hspec:∀ds:List (DataW H),ds.length=fn.params.toList.length→(s.fn H ds).results= [.lit (.bool true)]∧(s.fn H ds).args=ds∧(s.fn H ds).vars= [])
  (witness:∃(w:World) (tape:Tape) (i:Input),w.os=os∧(w.forCall tape i).Shaped C.prog∧i.vars= []∧Input.okWide C.prog (w.forCall tape i) .any w.heap.size f i∧
   s.pre6 enc C.prog fn conds false (w.forCall tape i).memory i.args∧a.holds C.prog (lone (Frame.enter C.prog f i.args .normal) [] (w.forCall tape i)))
  (HO:∀(W:World) (base:Nat) (args:Array Value) (ds:List (DataW H)) (ps:List MemPlace),(∀(j:Nat) t v,fn.params[j]? =some t→args[j]? =some v→Value.okWide C.prog W .any base t v)→
   args.toList.length=fn.params.toList.length→DataW.TrodAll enc C.prog W 0 (fun _=>true) true fn.params.toList args.toList ds ps→(DataW.weightsEach C.prog fn.params.toList ds).all (· ≤reachBytes)=true→
   Calls C.prog f args W fun e W'=>e= .returned (.bool true)∧Below W.heap.size W W'):
  ReturnsInHanded a C os f .any (s.pre6 enc C.prog fn conds false) (s.post enc C.prog fn false fresh handsOn false):=by
 refine returnsInHanded_of_change_sized own started noInit hfn witness ?_
 intro W base args ds gs before hval hW _ hz _
 have hW':=hW
 obtain ⟨p,q,hA,hV,rfl,hfz,hnd⟩:=hW
 rw [hvars] at hV
 obtain ⟨rfl,rfl⟩:=trodVars_none hV
 obtain ⟨l1,l2⟩:=j2 hA
 have hz':(DataW.weightsEach C.prog fn.params.toList ds).all (· ≤reachBytes)=true:=by
  have e:s.plain.varTypes C.prog= []:=by simp [ChangeSpec.plain,DataSpec.varTypes,hvars]
  rw [e,List.append_nil,List.append_nil] at hz
  exact hz
 refine (HO W base args ds p hval l1 hA hz').mono fun e W' ⟨he,hb⟩=> ?_
 subst he
 refine ⟨_,rfl,ds,[],p++ [],[],p,[],hW',?_⟩
 rw [List.append_nil]
 obtain ⟨s1,s2,s3⟩:=hspec ds l2
 rw [s1,s2,s3,hres,hvars]
 refine ⟨?_,lG hl hb hparams hA (fun x hx=>by simpa using hW'.lt x (by simpa using hx)),rfl,Below.frame hb _,fun h=>nomatch h⟩
 exact trodAll_mk1 (shut_bool htb true)
def l7:List LK→List D→Prop
  | [],ds=>ds= []
  | .bool::ks,ds=> ∃(b:Bool) (r:List D),ds= .bool b::r∧l7 ks r
  | .int k::ks,ds=> ∃(n:Int) (r:List D),ds= .int k n::r∧k.has n∧l7 ks r
  | .str::ks,ds=> ∃(b:ByteArray) (r:List D),ds= .str b::r∧(b.size:Int)≤IntKind.i64.max∧l7 ks r
def pD (P:Program) (t:TypeId):Option LK:=match P.underlying t with
  |some .bool=>some .bool
  |some (.int k)=>some (.int k)
  |some .string=>some .str
  |_=>none
def En (P:Program):List TypeId→Option (List LK)
  | []=>some []
  |t::r=>match pD P t,En P r with
    |some k,some l=>some (k::l)
    |_,_=>none
theorem Bk {P:Program} {w:World} {r:Reach} {b:Nat} {t:TypeId} {v:Value} {k:LK} (hk:pD P t=some k) (h:Cell.okWide P w r b t v):∃d:D,qF v=some d∧∀ks ds,l7 ks ds→l7 (k::ks) (d::ds):=by
 unfold pD at hk
 unfold Cell.okWide Cell.ok at h
 split at hk
 ·rename_i hu
  obtain rfl:=Option.some.inj hk
  rw [hu] at h
  cases v<;>simp at h
  exact ⟨_,rfl,fun ks ds q=>⟨_,_,rfl,q⟩⟩
 ·rename_i k' hu
  obtain rfl:=Option.some.inj hk
  rw [hu] at h
  cases v<;>simp at h
  obtain ⟨rfl,h⟩:=h
  exact ⟨_,rfl,fun ks ds q=>⟨_,_,rfl,h,q⟩⟩
 ·rename_i hu
  obtain rfl:=Option.some.inj hk
  rw [hu] at h
  cases v<;>simp at h
  exact ⟨_,rfl,fun ks ds q=>⟨_,_,rfl,h,q⟩⟩
 ·cases hk
theorem uK {P:Program} {w:World} {r:Reach} {b:Nat} {t:TypeId} {v:Value} {k:LK} {M:MM} (hk:pD P t=some k) (h:Value.okWide P w r b t v):∃d:D,l7 [k] [d]∧bk M d v:=by
 have hc:Cell.okWide P w r b t v:=by
  unfold Value.okWide at h
  unfold pD at hk
  split at hk
  ·rename_i hu;rw [hu] at h;exact h
  ·rename_i hu;rw [hu] at h;exact h
  ·rename_i hu;rw [hu] at h;exact h
  ·cases hk
 obtain ⟨d,h1,h2⟩:=Bk hk hc
 exact ⟨d,h2 [] [] rfl,om h1⟩
def rI (w:World):Nat→Nat→Option Value:=fun b o=>w.cell? ⟨b,o,none⟩
theorem aE.HO {P:Program} {f:FuncId} {args:List D} (h:aE P f args (.bool true)) {W:World} {vs:Array Value} (hr:bS (eB (rI W)) args vs):Calls P f vs W fun e W'=>e= .returned (.bool true)∧Below W.heap.size W W':=by
 refine Calls.mono (h.run W (rI W) vs (fun b o v k=>k) hr) ?_
 rintro e W' ⟨v,C',rfl,hext,hrep,_⟩
 cases hrep
 exact ⟨rfl,hext.below⟩
end Go.Ev
