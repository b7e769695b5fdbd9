import Derived.ProofKit
import Derived.Carry
import Derived.SizedLaws
import Derived.Test.YtbfpahigdpigpaaGreatC04
import Derived.Test.YtbfpahigdpigpaaGreatC05
import Derived.Test.YtbfpahigdpigpaaGreatC06
import Derived.Test.YtbfpahigdpigpaaGreatC07
import Derived.Test.YtbfpahigdpigpaaGreatC08
open List renaming replicate→Sx,length→SA,drop_zero→Tw,append_nil→T0
open Int renaming toNat→Sz,lt_add_one_of_le→SC
open Go renaming IntKind→T8
/- Contracts and plain laws that a statement's proof leans on (texts merged:XB2c,XB2d,XB2e,XBytes,XB3,XBytes2,XLen,XD2,XD3,XD4,XD4A,EM16,EvR). -/
set_option linter.unusedVariables false
set_option linter.unusedSimpArgs false
set_option maxRecDepth 100000
set_option maxHeartbeats 8000000
namespace Go.Proofs.YtbfpahigdpigpaaGreat
open Go Go.Ev
theorem vI (w dst src base aa ai cc:Int) (d0:0≤dst) (d1:dst≤15) (s0:0≤src) (s1:src≤15) (b0:0≤base) (b1:base≤15) (p0: -2147483648≤aa) (p1:aa≤2147483647) (i0: -2147483648≤ai) (i1:ai≤2147483647) (c0:0≤cc) (c1:cc≤15) (hm:ct 26 w dst src base aa ai cc=true):aF Tryz.prog 43 ([xD 26 w dst src base aa ai cc]) (.aC [.aj .no 1 (bD (aM 26 w dst src base aa ai cc)),.int .i64 0]):=by
 have c0:= @aK 26 w dst src base aa ai cc (by decide)
 rw [hm] at c0
 have c1:= @cj 26 (by decide)
 let E1:EL:= [.ret _ _ _ c0,tF,.ret _ _ _ c1,tF,tF,tF,tF,tF,tF,tT]
 by_cases h2:w=8
 ·subst h2
  rcases ef (dN false dst base false) with h3|h3
  ·have c4:= @du dst base d0 d1 b0 b1 false false h3
   generalize g6:fw false dst base=r5 at c4
   rcases ef (decide (base%8=4)) with h7|h7
   ·have c8:= @eW dst base aa d0 d1 b0 b1 p0 p1 h7
    exact (js (d:= .aC [.aj (.fresh 1) 1 [.int .u8 r5,.int .u8 15,.int .u8 182,.int .u8 (128+8*(dst%8)+base%8),.int .u8 36,.int .u8 (aa%256),.int .u8 (aa / 256%256),.int .u8 (aa / 65536%256),.int .u8 (aa / 16777216%256)],.int .i64 0]) (E1++ [tT,.ret _ _ _ c4,.inl,.ret _ _ _ c8,.inl,.go 64,tT,tT,.get ([.aj .tight 1 [.int .u8 r5],.aj .tight 1 [.int .u8 15,.int .u8 182],.aj .no 1 [.int .u8 (128+8*(dst%8)+base%8),.int .u8 36,.int .u8 (aa%256),.int .u8 (aa / 256%256),.int .u8 (aa / 65536%256),.int .u8 (aa / 16777216%256)]]) 0 (.aj .tight 1 [.int .u8 r5]) rfl,.len 1 2147483648 (by decide),tT,tT,.get ([.aj .tight 1 [.int .u8 r5],.aj .tight 1 [.int .u8 15,.int .u8 182],.aj .no 1 [.int .u8 (128+8*(dst%8)+base%8),.int .u8 36,.int .u8 (aa%256),.int .u8 (aa / 256%256),.int .u8 (aa / 65536%256),.int .u8 (aa / 16777216%256)]]) 1 (.aj .tight 1 [.int .u8 15,.int .u8 182]) rfl,.len 3 2147483648 (by decide),tT,tT,.get ([.aj .tight 1 [.int .u8 r5],.aj .tight 1 [.int .u8 15,.int .u8 182],.aj .no 1 [.int .u8 (128+8*(dst%8)+base%8),.int .u8 36,.int .u8 (aa%256),.int .u8 (aa / 256%256),.int .u8 (aa / 65536%256),.int .u8 (aa / 16777216%256)]]) 2 (.aj .no 1 [.int .u8 (128+8*(dst%8)+base%8),.int .u8 36,.int .u8 (aa%256),.int .u8 (aa / 256%256),.int .u8 (aa / 65536%256),.int .u8 (aa / 16777216%256)]) rfl,.len 9 2147483648 (by decide),tF]) (by kernel_rfl)).to (by clear E1;subst_vars;(try simp only [bI] at*);(try simp only [beq_iff_eq] at h);(try simp only [decide_eq_true_eq,decide_eq_false_iff_not] at*);simp_all [wk,ax,aO,aM,show aA 26=7 from rfl,bp,bD,cq,de,bM,dD])
   have c9:= @eV dst base aa d0 d1 b0 b1 p0 p1 h7
   exact (js (d:= .aC [.aj (.fresh 1) 1 [.int .u8 r5,.int .u8 15,.int .u8 182,.int .u8 (128+8*(dst%8)+base%8),.int .u8 (aa%256),.int .u8 (aa / 256%256),.int .u8 (aa / 65536%256),.int .u8 (aa / 16777216%256)],.int .i64 0]) (E1++ [tT,.ret _ _ _ c4,.inl,.ret _ _ _ c9,.inl,.go 64,tT,tT,.get ([.aj .tight 1 [.int .u8 r5],.aj .tight 1 [.int .u8 15,.int .u8 182],.aj .no 1 [.int .u8 (128+8*(dst%8)+base%8),.int .u8 (aa%256),.int .u8 (aa / 256%256),.int .u8 (aa / 65536%256),.int .u8 (aa / 16777216%256)]]) 0 (.aj .tight 1 [.int .u8 r5]) rfl,.len 1 2147483648 (by decide),tT,tT,.get ([.aj .tight 1 [.int .u8 r5],.aj .tight 1 [.int .u8 15,.int .u8 182],.aj .no 1 [.int .u8 (128+8*(dst%8)+base%8),.int .u8 (aa%256),.int .u8 (aa / 256%256),.int .u8 (aa / 65536%256),.int .u8 (aa / 16777216%256)]]) 1 (.aj .tight 1 [.int .u8 15,.int .u8 182]) rfl,.len 3 2147483648 (by decide),tT,tT,.get ([.aj .tight 1 [.int .u8 r5],.aj .tight 1 [.int .u8 15,.int .u8 182],.aj .no 1 [.int .u8 (128+8*(dst%8)+base%8),.int .u8 (aa%256),.int .u8 (aa / 256%256),.int .u8 (aa / 65536%256),.int .u8 (aa / 16777216%256)]]) 2 (.aj .no 1 [.int .u8 (128+8*(dst%8)+base%8),.int .u8 (aa%256),.int .u8 (aa / 256%256),.int .u8 (aa / 65536%256),.int .u8 (aa / 16777216%256)]) rfl,.len 8 2147483648 (by decide),tF]) (by kernel_rfl)).to (by clear E1;subst_vars;(try simp only [bI] at*);(try simp only [beq_iff_eq] at h);(try simp only [decide_eq_true_eq,decide_eq_false_iff_not] at*);simp_all [wk,ax,aO,aM,show aA 26=7 from rfl,bp,bD,cq,de,bM,dD])
  have LZ:= @eG dst base d0 d1 b0 b1 false false h3
  rcases ef (decide (base%8=4)) with P6|P6
  ·have Nz:= @eW dst base aa d0 d1 b0 b1 p0 p1 P6
   exact (js (d:= .aC [.aj (.fresh 1) 1 [.int .u8 15,.int .u8 182,.int .u8 (128+8*(dst%8)+base%8),.int .u8 36,.int .u8 (aa%256),.int .u8 (aa / 256%256),.int .u8 (aa / 65536%256),.int .u8 (aa / 16777216%256)],.int .i64 0]) (E1++ [tT,.ret _ _ _ LZ,.inl,.ret _ _ _ Nz,.inl,.go 64,tT,tT,.get ([.aj .tight 1 [],.aj .tight 1 [.int .u8 15,.int .u8 182],.aj .no 1 [.int .u8 (128+8*(dst%8)+base%8),.int .u8 36,.int .u8 (aa%256),.int .u8 (aa / 256%256),.int .u8 (aa / 65536%256),.int .u8 (aa / 16777216%256)]]) 0 (.aj .tight 1 []) rfl,.len 0 2147483648 (by decide),tT,tT,.get ([.aj .tight 1 [],.aj .tight 1 [.int .u8 15,.int .u8 182],.aj .no 1 [.int .u8 (128+8*(dst%8)+base%8),.int .u8 36,.int .u8 (aa%256),.int .u8 (aa / 256%256),.int .u8 (aa / 65536%256),.int .u8 (aa / 16777216%256)]]) 1 (.aj .tight 1 [.int .u8 15,.int .u8 182]) rfl,.len 2 2147483648 (by decide),tT,tT,.get ([.aj .tight 1 [],.aj .tight 1 [.int .u8 15,.int .u8 182],.aj .no 1 [.int .u8 (128+8*(dst%8)+base%8),.int .u8 36,.int .u8 (aa%256),.int .u8 (aa / 256%256),.int .u8 (aa / 65536%256),.int .u8 (aa / 16777216%256)]]) 2 (.aj .no 1 [.int .u8 (128+8*(dst%8)+base%8),.int .u8 36,.int .u8 (aa%256),.int .u8 (aa / 256%256),.int .u8 (aa / 65536%256),.int .u8 (aa / 16777216%256)]) rfl,.len 8 2147483648 (by decide),tF]) (by kernel_rfl)).to (by clear E1;subst_vars;(try simp only [bI] at*);(try simp only [beq_iff_eq] at h);(try simp only [decide_eq_true_eq,decide_eq_false_iff_not] at*);simp_all [wk,ax,aO,aM,show aA 26=7 from rfl,bp,bD,cq,de,bM,dD])
  have MB:= @eV dst base aa d0 d1 b0 b1 p0 p1 P6
  exact (js (d:= .aC [.aj (.fresh 1) 1 [.int .u8 15,.int .u8 182,.int .u8 (128+8*(dst%8)+base%8),.int .u8 (aa%256),.int .u8 (aa / 256%256),.int .u8 (aa / 65536%256),.int .u8 (aa / 16777216%256)],.int .i64 0]) (E1++ [tT,.ret _ _ _ LZ,.inl,.ret _ _ _ MB,.inl,.go 64,tT,tT,.get ([.aj .tight 1 [],.aj .tight 1 [.int .u8 15,.int .u8 182],.aj .no 1 [.int .u8 (128+8*(dst%8)+base%8),.int .u8 (aa%256),.int .u8 (aa / 256%256),.int .u8 (aa / 65536%256),.int .u8 (aa / 16777216%256)]]) 0 (.aj .tight 1 []) rfl,.len 0 2147483648 (by decide),tT,tT,.get ([.aj .tight 1 [],.aj .tight 1 [.int .u8 15,.int .u8 182],.aj .no 1 [.int .u8 (128+8*(dst%8)+base%8),.int .u8 (aa%256),.int .u8 (aa / 256%256),.int .u8 (aa / 65536%256),.int .u8 (aa / 16777216%256)]]) 1 (.aj .tight 1 [.int .u8 15,.int .u8 182]) rfl,.len 2 2147483648 (by decide),tT,tT,.get ([.aj .tight 1 [],.aj .tight 1 [.int .u8 15,.int .u8 182],.aj .no 1 [.int .u8 (128+8*(dst%8)+base%8),.int .u8 (aa%256),.int .u8 (aa / 256%256),.int .u8 (aa / 65536%256),.int .u8 (aa / 16777216%256)]]) 2 (.aj .no 1 [.int .u8 (128+8*(dst%8)+base%8),.int .u8 (aa%256),.int .u8 (aa / 256%256),.int .u8 (aa / 65536%256),.int .u8 (aa / 16777216%256)]) rfl,.len 7 2147483648 (by decide),tF]) (by kernel_rfl)).to (by clear E1;subst_vars;(try simp only [bI] at*);(try simp only [beq_iff_eq] at h);(try simp only [decide_eq_true_eq,decide_eq_false_iff_not] at*);simp_all [wk,ax,aO,aM,show aA 26=7 from rfl,bp,bD,cq,de,bM,dD])
 let E2:EL:=E1++ [tC (aw h2)]
 by_cases h14:w=16
 ·subst h14
  rcases ef (dN false dst base false) with h15|h15
  ·have MS:= @du dst base d0 d1 b0 b1 false false h15
   generalize g18:fw false dst base=r17 at MS
   rcases ef (decide (base%8=4)) with h19|h19
   ·have OW:= @eW dst base aa d0 d1 b0 b1 p0 p1 h19
    exact (js (d:= .aC [.aj (.fresh 1) 1 [.int .u8 r17,.int .u8 15,.int .u8 183,.int .u8 (128+8*(dst%8)+base%8),.int .u8 36,.int .u8 (aa%256),.int .u8 (aa / 256%256),.int .u8 (aa / 65536%256),.int .u8 (aa / 16777216%256)],.int .i64 0]) (E2++ [tT,.ret _ _ _ MS,.inl,.ret _ _ _ OW,.inl,.go 64,tT,tT,.get ([.aj .tight 1 [.int .u8 r17],.aj .tight 1 [.int .u8 15,.int .u8 183],.aj .no 1 [.int .u8 (128+8*(dst%8)+base%8),.int .u8 36,.int .u8 (aa%256),.int .u8 (aa / 256%256),.int .u8 (aa / 65536%256),.int .u8 (aa / 16777216%256)]]) 0 (.aj .tight 1 [.int .u8 r17]) rfl,.len 1 2147483648 (by decide),tT,tT,.get ([.aj .tight 1 [.int .u8 r17],.aj .tight 1 [.int .u8 15,.int .u8 183],.aj .no 1 [.int .u8 (128+8*(dst%8)+base%8),.int .u8 36,.int .u8 (aa%256),.int .u8 (aa / 256%256),.int .u8 (aa / 65536%256),.int .u8 (aa / 16777216%256)]]) 1 (.aj .tight 1 [.int .u8 15,.int .u8 183]) rfl,.len 3 2147483648 (by decide),tT,tT,.get ([.aj .tight 1 [.int .u8 r17],.aj .tight 1 [.int .u8 15,.int .u8 183],.aj .no 1 [.int .u8 (128+8*(dst%8)+base%8),.int .u8 36,.int .u8 (aa%256),.int .u8 (aa / 256%256),.int .u8 (aa / 65536%256),.int .u8 (aa / 16777216%256)]]) 2 (.aj .no 1 [.int .u8 (128+8*(dst%8)+base%8),.int .u8 36,.int .u8 (aa%256),.int .u8 (aa / 256%256),.int .u8 (aa / 65536%256),.int .u8 (aa / 16777216%256)]) rfl,.len 9 2147483648 (by decide),tF]) (by kernel_rfl)).to (by clear E1 E2;subst_vars;(try simp only [bI] at*);(try simp only [beq_iff_eq] at h);(try simp only [decide_eq_true_eq,decide_eq_false_iff_not] at*);simp_all [wk,ax,aO,aM,show aA 26=7 from rfl,bp,bD,cq,de,bM,dD])
   have Po:= @eV dst base aa d0 d1 b0 b1 p0 p1 h19
   exact (js (d:= .aC [.aj (.fresh 1) 1 [.int .u8 r17,.int .u8 15,.int .u8 183,.int .u8 (128+8*(dst%8)+base%8),.int .u8 (aa%256),.int .u8 (aa / 256%256),.int .u8 (aa / 65536%256),.int .u8 (aa / 16777216%256)],.int .i64 0]) (E2++ [tT,.ret _ _ _ MS,.inl,.ret _ _ _ Po,.inl,.go 64,tT,tT,.get ([.aj .tight 1 [.int .u8 r17],.aj .tight 1 [.int .u8 15,.int .u8 183],.aj .no 1 [.int .u8 (128+8*(dst%8)+base%8),.int .u8 (aa%256),.int .u8 (aa / 256%256),.int .u8 (aa / 65536%256),.int .u8 (aa / 16777216%256)]]) 0 (.aj .tight 1 [.int .u8 r17]) rfl,.len 1 2147483648 (by decide),tT,tT,.get ([.aj .tight 1 [.int .u8 r17],.aj .tight 1 [.int .u8 15,.int .u8 183],.aj .no 1 [.int .u8 (128+8*(dst%8)+base%8),.int .u8 (aa%256),.int .u8 (aa / 256%256),.int .u8 (aa / 65536%256),.int .u8 (aa / 16777216%256)]]) 1 (.aj .tight 1 [.int .u8 15,.int .u8 183]) rfl,.len 3 2147483648 (by decide),tT,tT,.get ([.aj .tight 1 [.int .u8 r17],.aj .tight 1 [.int .u8 15,.int .u8 183],.aj .no 1 [.int .u8 (128+8*(dst%8)+base%8),.int .u8 (aa%256),.int .u8 (aa / 256%256),.int .u8 (aa / 65536%256),.int .u8 (aa / 16777216%256)]]) 2 (.aj .no 1 [.int .u8 (128+8*(dst%8)+base%8),.int .u8 (aa%256),.int .u8 (aa / 256%256),.int .u8 (aa / 65536%256),.int .u8 (aa / 16777216%256)]) rfl,.len 8 2147483648 (by decide),tF]) (by kernel_rfl)).to (by clear E1 E2;subst_vars;(try simp only [bI] at*);(try simp only [beq_iff_eq] at h);(try simp only [decide_eq_true_eq,decide_eq_false_iff_not] at*);simp_all [wk,ax,aO,aM,show aA 26=7 from rfl,bp,bD,cq,de,bM,dD])
  have OJ:= @eG dst base d0 d1 b0 b1 false false h15
  rcases ef (decide (base%8=4)) with h23|h23
  ·have OP:= @eW dst base aa d0 d1 b0 b1 p0 p1 h23
   exact (js (d:= .aC [.aj (.fresh 1) 1 [.int .u8 15,.int .u8 183,.int .u8 (128+8*(dst%8)+base%8),.int .u8 36,.int .u8 (aa%256),.int .u8 (aa / 256%256),.int .u8 (aa / 65536%256),.int .u8 (aa / 16777216%256)],.int .i64 0]) (E2++ [tT,.ret _ _ _ OJ,.inl,.ret _ _ _ OP,.inl,.go 64,tT,tT,.get ([.aj .tight 1 [],.aj .tight 1 [.int .u8 15,.int .u8 183],.aj .no 1 [.int .u8 (128+8*(dst%8)+base%8),.int .u8 36,.int .u8 (aa%256),.int .u8 (aa / 256%256),.int .u8 (aa / 65536%256),.int .u8 (aa / 16777216%256)]]) 0 (.aj .tight 1 []) rfl,.len 0 2147483648 (by decide),tT,tT,.get ([.aj .tight 1 [],.aj .tight 1 [.int .u8 15,.int .u8 183],.aj .no 1 [.int .u8 (128+8*(dst%8)+base%8),.int .u8 36,.int .u8 (aa%256),.int .u8 (aa / 256%256),.int .u8 (aa / 65536%256),.int .u8 (aa / 16777216%256)]]) 1 (.aj .tight 1 [.int .u8 15,.int .u8 183]) rfl,.len 2 2147483648 (by decide),tT,tT,.get ([.aj .tight 1 [],.aj .tight 1 [.int .u8 15,.int .u8 183],.aj .no 1 [.int .u8 (128+8*(dst%8)+base%8),.int .u8 36,.int .u8 (aa%256),.int .u8 (aa / 256%256),.int .u8 (aa / 65536%256),.int .u8 (aa / 16777216%256)]]) 2 (.aj .no 1 [.int .u8 (128+8*(dst%8)+base%8),.int .u8 36,.int .u8 (aa%256),.int .u8 (aa / 256%256),.int .u8 (aa / 65536%256),.int .u8 (aa / 16777216%256)]) rfl,.len 8 2147483648 (by decide),tF]) (by kernel_rfl)).to (by clear E1 E2;subst_vars;(try simp only [bI] at*);(try simp only [beq_iff_eq] at h);(try simp only [decide_eq_true_eq,decide_eq_false_iff_not] at*);simp_all [wk,ax,aO,aM,show aA 26=7 from rfl,bp,bD,cq,de,bM,dD])
  have P1:= @eV dst base aa d0 d1 b0 b1 p0 p1 h23
  exact (js (d:= .aC [.aj (.fresh 1) 1 [.int .u8 15,.int .u8 183,.int .u8 (128+8*(dst%8)+base%8),.int .u8 (aa%256),.int .u8 (aa / 256%256),.int .u8 (aa / 65536%256),.int .u8 (aa / 16777216%256)],.int .i64 0]) (E2++ [tT,.ret _ _ _ OJ,.inl,.ret _ _ _ P1,.inl,.go 64,tT,tT,.get ([.aj .tight 1 [],.aj .tight 1 [.int .u8 15,.int .u8 183],.aj .no 1 [.int .u8 (128+8*(dst%8)+base%8),.int .u8 (aa%256),.int .u8 (aa / 256%256),.int .u8 (aa / 65536%256),.int .u8 (aa / 16777216%256)]]) 0 (.aj .tight 1 []) rfl,.len 0 2147483648 (by decide),tT,tT,.get ([.aj .tight 1 [],.aj .tight 1 [.int .u8 15,.int .u8 183],.aj .no 1 [.int .u8 (128+8*(dst%8)+base%8),.int .u8 (aa%256),.int .u8 (aa / 256%256),.int .u8 (aa / 65536%256),.int .u8 (aa / 16777216%256)]]) 1 (.aj .tight 1 [.int .u8 15,.int .u8 183]) rfl,.len 2 2147483648 (by decide),tT,tT,.get ([.aj .tight 1 [],.aj .tight 1 [.int .u8 15,.int .u8 183],.aj .no 1 [.int .u8 (128+8*(dst%8)+base%8),.int .u8 (aa%256),.int .u8 (aa / 256%256),.int .u8 (aa / 65536%256),.int .u8 (aa / 16777216%256)]]) 2 (.aj .no 1 [.int .u8 (128+8*(dst%8)+base%8),.int .u8 (aa%256),.int .u8 (aa / 256%256),.int .u8 (aa / 65536%256),.int .u8 (aa / 16777216%256)]) rfl,.len 7 2147483648 (by decide),tF]) (by kernel_rfl)).to (by clear E1 E2;subst_vars;(try simp only [bI] at*);(try simp only [beq_iff_eq] at h);(try simp only [decide_eq_true_eq,decide_eq_false_iff_not] at*);simp_all [wk,ax,aO,aM,show aA 26=7 from rfl,bp,bD,cq,de,bM,dD])
 rcases ef (dN (w==64) dst base false) with h26|h26
 ·have NG:= @du dst base d0 d1 b0 b1 (w==64) false h26
  generalize g29:fw (w==64) dst base=r28 at NG
  rcases ef (decide (base%8=4)) with h30|h30
  ·have O3:= @eW dst base aa d0 d1 b0 b1 p0 p1 h30
   exact (js (d:= .aC [.aj (.fresh 1) 1 [.int .u8 r28,.int .u8 139,.int .u8 (128+8*(dst%8)+base%8),.int .u8 36,.int .u8 (aa%256),.int .u8 (aa / 256%256),.int .u8 (aa / 65536%256),.int .u8 (aa / 16777216%256)],.int .i64 0]) (E2++ [tC (aw h14),.ret _ _ _ NG,.inl,.ret _ _ _ O3,.inl,.go 64,tT,tT,.get ([.aj .tight 1 [.int .u8 r28],.aj .tight 1 [.int .u8 139],.aj .no 1 [.int .u8 (128+8*(dst%8)+base%8),.int .u8 36,.int .u8 (aa%256),.int .u8 (aa / 256%256),.int .u8 (aa / 65536%256),.int .u8 (aa / 16777216%256)]]) 0 (.aj .tight 1 [.int .u8 r28]) rfl,.len 1 2147483648 (by decide),tT,tT,.get ([.aj .tight 1 [.int .u8 r28],.aj .tight 1 [.int .u8 139],.aj .no 1 [.int .u8 (128+8*(dst%8)+base%8),.int .u8 36,.int .u8 (aa%256),.int .u8 (aa / 256%256),.int .u8 (aa / 65536%256),.int .u8 (aa / 16777216%256)]]) 1 (.aj .tight 1 [.int .u8 139]) rfl,.len 2 2147483648 (by decide),tT,tT,.get ([.aj .tight 1 [.int .u8 r28],.aj .tight 1 [.int .u8 139],.aj .no 1 [.int .u8 (128+8*(dst%8)+base%8),.int .u8 36,.int .u8 (aa%256),.int .u8 (aa / 256%256),.int .u8 (aa / 65536%256),.int .u8 (aa / 16777216%256)]]) 2 (.aj .no 1 [.int .u8 (128+8*(dst%8)+base%8),.int .u8 36,.int .u8 (aa%256),.int .u8 (aa / 256%256),.int .u8 (aa / 65536%256),.int .u8 (aa / 16777216%256)]) rfl,.len 8 2147483648 (by decide),tF]) (by kernel_rfl)).to (by clear E1 E2;subst_vars;(try simp only [bI] at*);(try simp only [beq_iff_eq] at h);(try simp only [decide_eq_true_eq,decide_eq_false_iff_not] at*);simp_all [wk,ax,aO,aM,show aA 26=7 from rfl,bp,bD,cq,de,bM,dD])
  have c32:= @eV dst base aa d0 d1 b0 b1 p0 p1 h30
  exact (js (d:= .aC [.aj (.fresh 1) 1 [.int .u8 r28,.int .u8 139,.int .u8 (128+8*(dst%8)+base%8),.int .u8 (aa%256),.int .u8 (aa / 256%256),.int .u8 (aa / 65536%256),.int .u8 (aa / 16777216%256)],.int .i64 0]) (E2++ [tC (aw h14),.ret _ _ _ NG,.inl,.ret _ _ _ c32,.inl,.go 64,tT,tT,.get ([.aj .tight 1 [.int .u8 r28],.aj .tight 1 [.int .u8 139],.aj .no 1 [.int .u8 (128+8*(dst%8)+base%8),.int .u8 (aa%256),.int .u8 (aa / 256%256),.int .u8 (aa / 65536%256),.int .u8 (aa / 16777216%256)]]) 0 (.aj .tight 1 [.int .u8 r28]) rfl,.len 1 2147483648 (by decide),tT,tT,.get ([.aj .tight 1 [.int .u8 r28],.aj .tight 1 [.int .u8 139],.aj .no 1 [.int .u8 (128+8*(dst%8)+base%8),.int .u8 (aa%256),.int .u8 (aa / 256%256),.int .u8 (aa / 65536%256),.int .u8 (aa / 16777216%256)]]) 1 (.aj .tight 1 [.int .u8 139]) rfl,.len 2 2147483648 (by decide),tT,tT,.get ([.aj .tight 1 [.int .u8 r28],.aj .tight 1 [.int .u8 139],.aj .no 1 [.int .u8 (128+8*(dst%8)+base%8),.int .u8 (aa%256),.int .u8 (aa / 256%256),.int .u8 (aa / 65536%256),.int .u8 (aa / 16777216%256)]]) 2 (.aj .no 1 [.int .u8 (128+8*(dst%8)+base%8),.int .u8 (aa%256),.int .u8 (aa / 256%256),.int .u8 (aa / 65536%256),.int .u8 (aa / 16777216%256)]) rfl,.len 7 2147483648 (by decide),tF]) (by kernel_rfl)).to (by clear E1 E2;subst_vars;(try simp only [bI] at*);(try simp only [beq_iff_eq] at h);(try simp only [decide_eq_true_eq,decide_eq_false_iff_not] at*);simp_all [wk,ax,aO,aM,show aA 26=7 from rfl,bp,bD,cq,de,bM,dD])
 have R9:= @eG dst base d0 d1 b0 b1 (w==64) false h26
 rcases ef (decide (base%8=4)) with h34|h34
 ·have c35:= @eW dst base aa d0 d1 b0 b1 p0 p1 h34
  exact (js (d:= .aC [.aj (.fresh 1) 1 [.int .u8 139,.int .u8 (128+8*(dst%8)+base%8),.int .u8 36,.int .u8 (aa%256),.int .u8 (aa / 256%256),.int .u8 (aa / 65536%256),.int .u8 (aa / 16777216%256)],.int .i64 0]) (E2++ [tC (aw h14),.ret _ _ _ R9,.inl,.ret _ _ _ c35,.inl,.go 64,tT,tT,.get ([.aj .tight 1 [],.aj .tight 1 [.int .u8 139],.aj .no 1 [.int .u8 (128+8*(dst%8)+base%8),.int .u8 36,.int .u8 (aa%256),.int .u8 (aa / 256%256),.int .u8 (aa / 65536%256),.int .u8 (aa / 16777216%256)]]) 0 (.aj .tight 1 []) rfl,.len 0 2147483648 (by decide),tT,tT,.get ([.aj .tight 1 [],.aj .tight 1 [.int .u8 139],.aj .no 1 [.int .u8 (128+8*(dst%8)+base%8),.int .u8 36,.int .u8 (aa%256),.int .u8 (aa / 256%256),.int .u8 (aa / 65536%256),.int .u8 (aa / 16777216%256)]]) 1 (.aj .tight 1 [.int .u8 139]) rfl,.len 1 2147483648 (by decide),tT,tT,.get ([.aj .tight 1 [],.aj .tight 1 [.int .u8 139],.aj .no 1 [.int .u8 (128+8*(dst%8)+base%8),.int .u8 36,.int .u8 (aa%256),.int .u8 (aa / 256%256),.int .u8 (aa / 65536%256),.int .u8 (aa / 16777216%256)]]) 2 (.aj .no 1 [.int .u8 (128+8*(dst%8)+base%8),.int .u8 36,.int .u8 (aa%256),.int .u8 (aa / 256%256),.int .u8 (aa / 65536%256),.int .u8 (aa / 16777216%256)]) rfl,.len 7 2147483648 (by decide),tF]) (by kernel_rfl)).to (by clear E1 E2;subst_vars;(try simp only [bI] at*);(try simp only [beq_iff_eq] at h);(try simp only [decide_eq_true_eq,decide_eq_false_iff_not] at*);simp_all [wk,ax,aO,aM,show aA 26=7 from rfl,bp,bD,cq,de,bM,dD])
 have c36:= @eV dst base aa d0 d1 b0 b1 p0 p1 h34
 exact (js (d:= .aC [.aj (.fresh 1) 1 [.int .u8 139,.int .u8 (128+8*(dst%8)+base%8),.int .u8 (aa%256),.int .u8 (aa / 256%256),.int .u8 (aa / 65536%256),.int .u8 (aa / 16777216%256)],.int .i64 0]) (E2++ [tC (aw h14),.ret _ _ _ R9,.inl,.ret _ _ _ c36,.inl,.go 64,tT,tT,.get ([.aj .tight 1 [],.aj .tight 1 [.int .u8 139],.aj .no 1 [.int .u8 (128+8*(dst%8)+base%8),.int .u8 (aa%256),.int .u8 (aa / 256%256),.int .u8 (aa / 65536%256),.int .u8 (aa / 16777216%256)]]) 0 (.aj .tight 1 []) rfl,.len 0 2147483648 (by decide),tT,tT,.get ([.aj .tight 1 [],.aj .tight 1 [.int .u8 139],.aj .no 1 [.int .u8 (128+8*(dst%8)+base%8),.int .u8 (aa%256),.int .u8 (aa / 256%256),.int .u8 (aa / 65536%256),.int .u8 (aa / 16777216%256)]]) 1 (.aj .tight 1 [.int .u8 139]) rfl,.len 1 2147483648 (by decide),tT,tT,.get ([.aj .tight 1 [],.aj .tight 1 [.int .u8 139],.aj .no 1 [.int .u8 (128+8*(dst%8)+base%8),.int .u8 (aa%256),.int .u8 (aa / 256%256),.int .u8 (aa / 65536%256),.int .u8 (aa / 16777216%256)]]) 2 (.aj .no 1 [.int .u8 (128+8*(dst%8)+base%8),.int .u8 (aa%256),.int .u8 (aa / 256%256),.int .u8 (aa / 65536%256),.int .u8 (aa / 16777216%256)]) rfl,.len 6 2147483648 (by decide),tF]) (by kernel_rfl)).to (by clear E1 E2;subst_vars;(try simp only [bI] at*);(try simp only [beq_iff_eq] at h);(try simp only [decide_eq_true_eq,decide_eq_false_iff_not] at*);simp_all [wk,ax,aO,aM,show aA 26=7 from rfl,bp,bD,cq,de,bM,dD])
theorem vH (w dst src base aa ai cc:Int) (d0:0≤dst) (d1:dst≤15) (s0:0≤src) (s1:src≤15) (b0:0≤base) (b1:base≤15) (p0: -2147483648≤aa) (p1:aa≤2147483647) (i0: -2147483648≤ai) (i1:ai≤2147483647) (c0:0≤cc) (c1:cc≤15) (hm:ct 27 w dst src base aa ai cc=true):aF Tryz.prog 43 ([xD 27 w dst src base aa ai cc]) (.aC [.aj .no 1 (bD (aM 27 w dst src base aa ai cc)),.int .i64 0]):=by
 have c0:= @aK 27 w dst src base aa ai cc (by decide)
 rw [hm] at c0
 have c1:= @cj 27 (by decide)
 let E1:EL:= [.ret _ _ _ c0,tF,.ret _ _ _ c1,tF,tF,tF,tF,tF,tF,tF,tT]
 by_cases h2:w=8
 ·subst h2
  have c3:= @du src base s0 s1 b0 b1 false true (rfl:true=true)
  generalize g5:fw false src base=r4 at c3
  rcases ef (decide (base%8=4)) with h6|h6
  ·have c7:= @eW src base aa s0 s1 b0 b1 p0 p1 h6
   exact (js (d:= .aC [.aj (.fresh 1) 1 [.int .u8 r4,.int .u8 136,.int .u8 (128+8*(src%8)+base%8),.int .u8 36,.int .u8 (aa%256),.int .u8 (aa / 256%256),.int .u8 (aa / 65536%256),.int .u8 (aa / 16777216%256)],.int .i64 0]) (E1++ [tT,.ret _ _ _ c3,.inl,.ret _ _ _ c7,.inl,.go 64,tT,tT,.get ([.aj .tight 0 [],.aj .tight 1 [.int .u8 r4],.aj .tight 1 [.int .u8 136],.aj .no 1 [.int .u8 (128+8*(src%8)+base%8),.int .u8 36,.int .u8 (aa%256),.int .u8 (aa / 256%256),.int .u8 (aa / 65536%256),.int .u8 (aa / 16777216%256)]]) 0 (.aj .tight 0 []) rfl,.len 0 2147483648 (by decide),tT,tT,.get ([.aj .tight 0 [],.aj .tight 1 [.int .u8 r4],.aj .tight 1 [.int .u8 136],.aj .no 1 [.int .u8 (128+8*(src%8)+base%8),.int .u8 36,.int .u8 (aa%256),.int .u8 (aa / 256%256),.int .u8 (aa / 65536%256),.int .u8 (aa / 16777216%256)]]) 1 (.aj .tight 1 [.int .u8 r4]) rfl,.len 1 2147483648 (by decide),tT,tT,.get ([.aj .tight 0 [],.aj .tight 1 [.int .u8 r4],.aj .tight 1 [.int .u8 136],.aj .no 1 [.int .u8 (128+8*(src%8)+base%8),.int .u8 36,.int .u8 (aa%256),.int .u8 (aa / 256%256),.int .u8 (aa / 65536%256),.int .u8 (aa / 16777216%256)]]) 2 (.aj .tight 1 [.int .u8 136]) rfl,.len 2 2147483648 (by decide),tT,tT,.get ([.aj .tight 0 [],.aj .tight 1 [.int .u8 r4],.aj .tight 1 [.int .u8 136],.aj .no 1 [.int .u8 (128+8*(src%8)+base%8),.int .u8 36,.int .u8 (aa%256),.int .u8 (aa / 256%256),.int .u8 (aa / 65536%256),.int .u8 (aa / 16777216%256)]]) 3 (.aj .no 1 [.int .u8 (128+8*(src%8)+base%8),.int .u8 36,.int .u8 (aa%256),.int .u8 (aa / 256%256),.int .u8 (aa / 65536%256),.int .u8 (aa / 16777216%256)]) rfl,.len 8 2147483648 (by decide),tF]) (by kernel_rfl)).to (by clear E1;(subst_vars;(try simp only [bI] at*);(try simp only [beq_iff_eq] at h);(try simp only [decide_eq_true_eq,decide_eq_false_iff_not] at*);simp_all [wk,ax,aO,aM,bD,cq,de,bM,dD,dN,bp,cI,aA];done))
  have c8:= @eV src base aa s0 s1 b0 b1 p0 p1 h6
  exact (js (d:= .aC [.aj (.fresh 1) 1 [.int .u8 r4,.int .u8 136,.int .u8 (128+8*(src%8)+base%8),.int .u8 (aa%256),.int .u8 (aa / 256%256),.int .u8 (aa / 65536%256),.int .u8 (aa / 16777216%256)],.int .i64 0]) (E1++ [tT,.ret _ _ _ c3,.inl,.ret _ _ _ c8,.inl,.go 64,tT,tT,.get ([.aj .tight 0 [],.aj .tight 1 [.int .u8 r4],.aj .tight 1 [.int .u8 136],.aj .no 1 [.int .u8 (128+8*(src%8)+base%8),.int .u8 (aa%256),.int .u8 (aa / 256%256),.int .u8 (aa / 65536%256),.int .u8 (aa / 16777216%256)]]) 0 (.aj .tight 0 []) rfl,.len 0 2147483648 (by decide),tT,tT,.get ([.aj .tight 0 [],.aj .tight 1 [.int .u8 r4],.aj .tight 1 [.int .u8 136],.aj .no 1 [.int .u8 (128+8*(src%8)+base%8),.int .u8 (aa%256),.int .u8 (aa / 256%256),.int .u8 (aa / 65536%256),.int .u8 (aa / 16777216%256)]]) 1 (.aj .tight 1 [.int .u8 r4]) rfl,.len 1 2147483648 (by decide),tT,tT,.get ([.aj .tight 0 [],.aj .tight 1 [.int .u8 r4],.aj .tight 1 [.int .u8 136],.aj .no 1 [.int .u8 (128+8*(src%8)+base%8),.int .u8 (aa%256),.int .u8 (aa / 256%256),.int .u8 (aa / 65536%256),.int .u8 (aa / 16777216%256)]]) 2 (.aj .tight 1 [.int .u8 136]) rfl,.len 2 2147483648 (by decide),tT,tT,.get ([.aj .tight 0 [],.aj .tight 1 [.int .u8 r4],.aj .tight 1 [.int .u8 136],.aj .no 1 [.int .u8 (128+8*(src%8)+base%8),.int .u8 (aa%256),.int .u8 (aa / 256%256),.int .u8 (aa / 65536%256),.int .u8 (aa / 16777216%256)]]) 3 (.aj .no 1 [.int .u8 (128+8*(src%8)+base%8),.int .u8 (aa%256),.int .u8 (aa / 256%256),.int .u8 (aa / 65536%256),.int .u8 (aa / 16777216%256)]) rfl,.len 7 2147483648 (by decide),tF]) (by kernel_rfl)).to (by clear E1;(subst_vars;(try simp only [bI] at*);(try simp only [beq_iff_eq] at h);(try simp only [decide_eq_true_eq,decide_eq_false_iff_not] at*);simp_all [wk,ax,aO,aM,bD,cq,de,bM,dD,dN,bp,cI,aA];done))
 let E2:EL:=E1++ [tC (aw h2)]
 by_cases h9:w=16
 ·subst h9
  rcases ef (dN false src base false) with PB|PB
  ·have Nb:= @du src base s0 s1 b0 b1 false false PB
   generalize g13:fw false src base=Ny at Nb
   rcases ef (decide (base%8=4)) with h14|h14
   ·have c15:= @eW src base aa s0 s1 b0 b1 p0 p1 h14
    exact (js (d:= .aC [.aj (.fresh 1) 1 [.int .u8 102,.int .u8 Ny,.int .u8 137,.int .u8 (128+8*(src%8)+base%8),.int .u8 36,.int .u8 (aa%256),.int .u8 (aa / 256%256),.int .u8 (aa / 65536%256),.int .u8 (aa / 16777216%256)],.int .i64 0]) (E2++ [tT,.ret _ _ _ Nb,.inl,.ret _ _ _ c15,.inl,.go 64,tT,tT,.get ([.aj .tight 1 [.int .u8 102],.aj .tight 1 [.int .u8 Ny],.aj .tight 1 [.int .u8 137],.aj .no 1 [.int .u8 (128+8*(src%8)+base%8),.int .u8 36,.int .u8 (aa%256),.int .u8 (aa / 256%256),.int .u8 (aa / 65536%256),.int .u8 (aa / 16777216%256)]]) 0 (.aj .tight 1 [.int .u8 102]) rfl,.len 1 2147483648 (by decide),tT,tT,.get ([.aj .tight 1 [.int .u8 102],.aj .tight 1 [.int .u8 Ny],.aj .tight 1 [.int .u8 137],.aj .no 1 [.int .u8 (128+8*(src%8)+base%8),.int .u8 36,.int .u8 (aa%256),.int .u8 (aa / 256%256),.int .u8 (aa / 65536%256),.int .u8 (aa / 16777216%256)]]) 1 (.aj .tight 1 [.int .u8 Ny]) rfl,.len 2 2147483648 (by decide),tT,tT,.get ([.aj .tight 1 [.int .u8 102],.aj .tight 1 [.int .u8 Ny],.aj .tight 1 [.int .u8 137],.aj .no 1 [.int .u8 (128+8*(src%8)+base%8),.int .u8 36,.int .u8 (aa%256),.int .u8 (aa / 256%256),.int .u8 (aa / 65536%256),.int .u8 (aa / 16777216%256)]]) 2 (.aj .tight 1 [.int .u8 137]) rfl,.len 3 2147483648 (by decide),tT,tT,.get ([.aj .tight 1 [.int .u8 102],.aj .tight 1 [.int .u8 Ny],.aj .tight 1 [.int .u8 137],.aj .no 1 [.int .u8 (128+8*(src%8)+base%8),.int .u8 36,.int .u8 (aa%256),.int .u8 (aa / 256%256),.int .u8 (aa / 65536%256),.int .u8 (aa / 16777216%256)]]) 3 (.aj .no 1 [.int .u8 (128+8*(src%8)+base%8),.int .u8 36,.int .u8 (aa%256),.int .u8 (aa / 256%256),.int .u8 (aa / 65536%256),.int .u8 (aa / 16777216%256)]) rfl,.len 9 2147483648 (by decide),tF]) (by kernel_rfl)).to (by clear E1 E2;(subst_vars;(try simp only [bI] at*);(try simp only [beq_iff_eq] at h);(try simp only [decide_eq_true_eq,decide_eq_false_iff_not] at*);simp_all [wk,ax,aO,aM,bD,cq,de,bM,dD,dN,bp,cI,aA];done))
   have MS:= @eV src base aa s0 s1 b0 b1 p0 p1 h14
   exact (js (d:= .aC [.aj (.fresh 1) 1 [.int .u8 102,.int .u8 Ny,.int .u8 137,.int .u8 (128+8*(src%8)+base%8),.int .u8 (aa%256),.int .u8 (aa / 256%256),.int .u8 (aa / 65536%256),.int .u8 (aa / 16777216%256)],.int .i64 0]) (E2++ [tT,.ret _ _ _ Nb,.inl,.ret _ _ _ MS,.inl,.go 64,tT,tT,.get ([.aj .tight 1 [.int .u8 102],.aj .tight 1 [.int .u8 Ny],.aj .tight 1 [.int .u8 137],.aj .no 1 [.int .u8 (128+8*(src%8)+base%8),.int .u8 (aa%256),.int .u8 (aa / 256%256),.int .u8 (aa / 65536%256),.int .u8 (aa / 16777216%256)]]) 0 (.aj .tight 1 [.int .u8 102]) rfl,.len 1 2147483648 (by decide),tT,tT,.get ([.aj .tight 1 [.int .u8 102],.aj .tight 1 [.int .u8 Ny],.aj .tight 1 [.int .u8 137],.aj .no 1 [.int .u8 (128+8*(src%8)+base%8),.int .u8 (aa%256),.int .u8 (aa / 256%256),.int .u8 (aa / 65536%256),.int .u8 (aa / 16777216%256)]]) 1 (.aj .tight 1 [.int .u8 Ny]) rfl,.len 2 2147483648 (by decide),tT,tT,.get ([.aj .tight 1 [.int .u8 102],.aj .tight 1 [.int .u8 Ny],.aj .tight 1 [.int .u8 137],.aj .no 1 [.int .u8 (128+8*(src%8)+base%8),.int .u8 (aa%256),.int .u8 (aa / 256%256),.int .u8 (aa / 65536%256),.int .u8 (aa / 16777216%256)]]) 2 (.aj .tight 1 [.int .u8 137]) rfl,.len 3 2147483648 (by decide),tT,tT,.get ([.aj .tight 1 [.int .u8 102],.aj .tight 1 [.int .u8 Ny],.aj .tight 1 [.int .u8 137],.aj .no 1 [.int .u8 (128+8*(src%8)+base%8),.int .u8 (aa%256),.int .u8 (aa / 256%256),.int .u8 (aa / 65536%256),.int .u8 (aa / 16777216%256)]]) 3 (.aj .no 1 [.int .u8 (128+8*(src%8)+base%8),.int .u8 (aa%256),.int .u8 (aa / 256%256),.int .u8 (aa / 65536%256),.int .u8 (aa / 16777216%256)]) rfl,.len 8 2147483648 (by decide),tF]) (by kernel_rfl)).to (by clear E1 E2;(subst_vars;(try simp only [bI] at*);(try simp only [beq_iff_eq] at h);(try simp only [decide_eq_true_eq,decide_eq_false_iff_not] at*);simp_all [wk,ax,aO,aM,bD,cq,de,bM,dD,dN,bp,cI,aA];done))
  have Pw:= @eG src base s0 s1 b0 b1 false false PB
  rcases ef (decide (base%8=4)) with h18|h18
  ·have M9:= @eW src base aa s0 s1 b0 b1 p0 p1 h18
   exact (js (d:= .aC [.aj (.fresh 1) 1 [.int .u8 102,.int .u8 137,.int .u8 (128+8*(src%8)+base%8),.int .u8 36,.int .u8 (aa%256),.int .u8 (aa / 256%256),.int .u8 (aa / 65536%256),.int .u8 (aa / 16777216%256)],.int .i64 0]) (E2++ [tT,.ret _ _ _ Pw,.inl,.ret _ _ _ M9,.inl,.go 64,tT,tT,.get ([.aj .tight 1 [.int .u8 102],.aj .tight 1 [],.aj .tight 1 [.int .u8 137],.aj .no 1 [.int .u8 (128+8*(src%8)+base%8),.int .u8 36,.int .u8 (aa%256),.int .u8 (aa / 256%256),.int .u8 (aa / 65536%256),.int .u8 (aa / 16777216%256)]]) 0 (.aj .tight 1 [.int .u8 102]) rfl,.len 1 2147483648 (by decide),tT,tT,.get ([.aj .tight 1 [.int .u8 102],.aj .tight 1 [],.aj .tight 1 [.int .u8 137],.aj .no 1 [.int .u8 (128+8*(src%8)+base%8),.int .u8 36,.int .u8 (aa%256),.int .u8 (aa / 256%256),.int .u8 (aa / 65536%256),.int .u8 (aa / 16777216%256)]]) 1 (.aj .tight 1 []) rfl,.len 1 2147483648 (by decide),tT,tT,.get ([.aj .tight 1 [.int .u8 102],.aj .tight 1 [],.aj .tight 1 [.int .u8 137],.aj .no 1 [.int .u8 (128+8*(src%8)+base%8),.int .u8 36,.int .u8 (aa%256),.int .u8 (aa / 256%256),.int .u8 (aa / 65536%256),.int .u8 (aa / 16777216%256)]]) 2 (.aj .tight 1 [.int .u8 137]) rfl,.len 2 2147483648 (by decide),tT,tT,.get ([.aj .tight 1 [.int .u8 102],.aj .tight 1 [],.aj .tight 1 [.int .u8 137],.aj .no 1 [.int .u8 (128+8*(src%8)+base%8),.int .u8 36,.int .u8 (aa%256),.int .u8 (aa / 256%256),.int .u8 (aa / 65536%256),.int .u8 (aa / 16777216%256)]]) 3 (.aj .no 1 [.int .u8 (128+8*(src%8)+base%8),.int .u8 36,.int .u8 (aa%256),.int .u8 (aa / 256%256),.int .u8 (aa / 65536%256),.int .u8 (aa / 16777216%256)]) rfl,.len 8 2147483648 (by decide),tF]) (by kernel_rfl)).to (by clear E1 E2;(subst_vars;(try simp only [bI] at*);(try simp only [beq_iff_eq] at h);(try simp only [decide_eq_true_eq,decide_eq_false_iff_not] at*);simp_all [wk,ax,aO,aM,bD,cq,de,bM,dD,dN,bp,cI,aA];done))
  have OW:= @eV src base aa s0 s1 b0 b1 p0 p1 h18
  exact (js (d:= .aC [.aj (.fresh 1) 1 [.int .u8 102,.int .u8 137,.int .u8 (128+8*(src%8)+base%8),.int .u8 (aa%256),.int .u8 (aa / 256%256),.int .u8 (aa / 65536%256),.int .u8 (aa / 16777216%256)],.int .i64 0]) (E2++ [tT,.ret _ _ _ Pw,.inl,.ret _ _ _ OW,.inl,.go 64,tT,tT,.get ([.aj .tight 1 [.int .u8 102],.aj .tight 1 [],.aj .tight 1 [.int .u8 137],.aj .no 1 [.int .u8 (128+8*(src%8)+base%8),.int .u8 (aa%256),.int .u8 (aa / 256%256),.int .u8 (aa / 65536%256),.int .u8 (aa / 16777216%256)]]) 0 (.aj .tight 1 [.int .u8 102]) rfl,.len 1 2147483648 (by decide),tT,tT,.get ([.aj .tight 1 [.int .u8 102],.aj .tight 1 [],.aj .tight 1 [.int .u8 137],.aj .no 1 [.int .u8 (128+8*(src%8)+base%8),.int .u8 (aa%256),.int .u8 (aa / 256%256),.int .u8 (aa / 65536%256),.int .u8 (aa / 16777216%256)]]) 1 (.aj .tight 1 []) rfl,.len 1 2147483648 (by decide),tT,tT,.get ([.aj .tight 1 [.int .u8 102],.aj .tight 1 [],.aj .tight 1 [.int .u8 137],.aj .no 1 [.int .u8 (128+8*(src%8)+base%8),.int .u8 (aa%256),.int .u8 (aa / 256%256),.int .u8 (aa / 65536%256),.int .u8 (aa / 16777216%256)]]) 2 (.aj .tight 1 [.int .u8 137]) rfl,.len 2 2147483648 (by decide),tT,tT,.get ([.aj .tight 1 [.int .u8 102],.aj .tight 1 [],.aj .tight 1 [.int .u8 137],.aj .no 1 [.int .u8 (128+8*(src%8)+base%8),.int .u8 (aa%256),.int .u8 (aa / 256%256),.int .u8 (aa / 65536%256),.int .u8 (aa / 16777216%256)]]) 3 (.aj .no 1 [.int .u8 (128+8*(src%8)+base%8),.int .u8 (aa%256),.int .u8 (aa / 256%256),.int .u8 (aa / 65536%256),.int .u8 (aa / 16777216%256)]) rfl,.len 7 2147483648 (by decide),tF]) (by kernel_rfl)).to (by clear E1 E2;(subst_vars;(try simp only [bI] at*);(try simp only [beq_iff_eq] at h);(try simp only [decide_eq_true_eq,decide_eq_false_iff_not] at*);simp_all [wk,ax,aO,aM,bD,cq,de,bM,dD,dN,bp,cI,aA];done))
 rcases ef (dN (w==64) src base (w==8)) with h21|h21
 ·have OJ:= @du src base s0 s1 b0 b1 (w==64) (w==8) h21
  generalize g24:fw (w==64) src base=r23 at OJ
  rcases ef (decide (base%8=4)) with h25|h25
  ·have Oy:= @eW src base aa s0 s1 b0 b1 p0 p1 h25
   exact (js (d:= .aC [.aj (.fresh 1) 1 [.int .u8 r23,.int .u8 137,.int .u8 (128+8*(src%8)+base%8),.int .u8 36,.int .u8 (aa%256),.int .u8 (aa / 256%256),.int .u8 (aa / 65536%256),.int .u8 (aa / 16777216%256)],.int .i64 0]) (E2++ [tC (aw h9),.ret _ _ _ OJ,.inl,.ret _ _ _ Oy,.inl,.go 64,tT,tT,.get ([.aj .tight 0 [],.aj .tight 1 [.int .u8 r23],.aj .tight 1 [.int .u8 137],.aj .no 1 [.int .u8 (128+8*(src%8)+base%8),.int .u8 36,.int .u8 (aa%256),.int .u8 (aa / 256%256),.int .u8 (aa / 65536%256),.int .u8 (aa / 16777216%256)]]) 0 (.aj .tight 0 []) rfl,.len 0 2147483648 (by decide),tT,tT,.get ([.aj .tight 0 [],.aj .tight 1 [.int .u8 r23],.aj .tight 1 [.int .u8 137],.aj .no 1 [.int .u8 (128+8*(src%8)+base%8),.int .u8 36,.int .u8 (aa%256),.int .u8 (aa / 256%256),.int .u8 (aa / 65536%256),.int .u8 (aa / 16777216%256)]]) 1 (.aj .tight 1 [.int .u8 r23]) rfl,.len 1 2147483648 (by decide),tT,tT,.get ([.aj .tight 0 [],.aj .tight 1 [.int .u8 r23],.aj .tight 1 [.int .u8 137],.aj .no 1 [.int .u8 (128+8*(src%8)+base%8),.int .u8 36,.int .u8 (aa%256),.int .u8 (aa / 256%256),.int .u8 (aa / 65536%256),.int .u8 (aa / 16777216%256)]]) 2 (.aj .tight 1 [.int .u8 137]) rfl,.len 2 2147483648 (by decide),tT,tT,.get ([.aj .tight 0 [],.aj .tight 1 [.int .u8 r23],.aj .tight 1 [.int .u8 137],.aj .no 1 [.int .u8 (128+8*(src%8)+base%8),.int .u8 36,.int .u8 (aa%256),.int .u8 (aa / 256%256),.int .u8 (aa / 65536%256),.int .u8 (aa / 16777216%256)]]) 3 (.aj .no 1 [.int .u8 (128+8*(src%8)+base%8),.int .u8 36,.int .u8 (aa%256),.int .u8 (aa / 256%256),.int .u8 (aa / 65536%256),.int .u8 (aa / 16777216%256)]) rfl,.len 8 2147483648 (by decide),tF]) (by kernel_rfl)).to (by clear E1 E2;(subst_vars;(try simp only [bI] at*);(try simp only [beq_iff_eq] at h);(try simp only [decide_eq_true_eq,decide_eq_false_iff_not] at*);simp_all [wk,ax,aO,aM,bD,cq,de,bM,dD,dN,bp,cI,aA];done))
  have NG:= @eV src base aa s0 s1 b0 b1 p0 p1 h25
  exact (js (d:= .aC [.aj (.fresh 1) 1 [.int .u8 r23,.int .u8 137,.int .u8 (128+8*(src%8)+base%8),.int .u8 (aa%256),.int .u8 (aa / 256%256),.int .u8 (aa / 65536%256),.int .u8 (aa / 16777216%256)],.int .i64 0]) (E2++ [tC (aw h9),.ret _ _ _ OJ,.inl,.ret _ _ _ NG,.inl,.go 64,tT,tT,.get ([.aj .tight 0 [],.aj .tight 1 [.int .u8 r23],.aj .tight 1 [.int .u8 137],.aj .no 1 [.int .u8 (128+8*(src%8)+base%8),.int .u8 (aa%256),.int .u8 (aa / 256%256),.int .u8 (aa / 65536%256),.int .u8 (aa / 16777216%256)]]) 0 (.aj .tight 0 []) rfl,.len 0 2147483648 (by decide),tT,tT,.get ([.aj .tight 0 [],.aj .tight 1 [.int .u8 r23],.aj .tight 1 [.int .u8 137],.aj .no 1 [.int .u8 (128+8*(src%8)+base%8),.int .u8 (aa%256),.int .u8 (aa / 256%256),.int .u8 (aa / 65536%256),.int .u8 (aa / 16777216%256)]]) 1 (.aj .tight 1 [.int .u8 r23]) rfl,.len 1 2147483648 (by decide),tT,tT,.get ([.aj .tight 0 [],.aj .tight 1 [.int .u8 r23],.aj .tight 1 [.int .u8 137],.aj .no 1 [.int .u8 (128+8*(src%8)+base%8),.int .u8 (aa%256),.int .u8 (aa / 256%256),.int .u8 (aa / 65536%256),.int .u8 (aa / 16777216%256)]]) 2 (.aj .tight 1 [.int .u8 137]) rfl,.len 2 2147483648 (by decide),tT,tT,.get ([.aj .tight 0 [],.aj .tight 1 [.int .u8 r23],.aj .tight 1 [.int .u8 137],.aj .no 1 [.int .u8 (128+8*(src%8)+base%8),.int .u8 (aa%256),.int .u8 (aa / 256%256),.int .u8 (aa / 65536%256),.int .u8 (aa / 16777216%256)]]) 3 (.aj .no 1 [.int .u8 (128+8*(src%8)+base%8),.int .u8 (aa%256),.int .u8 (aa / 256%256),.int .u8 (aa / 65536%256),.int .u8 (aa / 16777216%256)]) rfl,.len 7 2147483648 (by decide),tF]) (by kernel_rfl)).to (by clear E1 E2;(subst_vars;(try simp only [bI] at*);(try simp only [beq_iff_eq] at h);(try simp only [decide_eq_true_eq,decide_eq_false_iff_not] at*);simp_all [wk,ax,aO,aM,bD,cq,de,bM,dD,dN,bp,cI,aA];done))
 have Sr:= @eG src base s0 s1 b0 b1 (w==64) (w==8) h21
 rcases ef (decide (base%8=4)) with h29|h29
 ·have OU:= @eW src base aa s0 s1 b0 b1 p0 p1 h29
  exact (js (d:= .aC [.aj (.fresh 1) 1 [.int .u8 137,.int .u8 (128+8*(src%8)+base%8),.int .u8 36,.int .u8 (aa%256),.int .u8 (aa / 256%256),.int .u8 (aa / 65536%256),.int .u8 (aa / 16777216%256)],.int .i64 0]) (E2++ [tC (aw h9),.ret _ _ _ Sr,.inl,.ret _ _ _ OU,.inl,.go 64,tT,tT,.get ([.aj .tight 0 [],.aj .tight 1 [],.aj .tight 1 [.int .u8 137],.aj .no 1 [.int .u8 (128+8*(src%8)+base%8),.int .u8 36,.int .u8 (aa%256),.int .u8 (aa / 256%256),.int .u8 (aa / 65536%256),.int .u8 (aa / 16777216%256)]]) 0 (.aj .tight 0 []) rfl,.len 0 2147483648 (by decide),tT,tT,.get ([.aj .tight 0 [],.aj .tight 1 [],.aj .tight 1 [.int .u8 137],.aj .no 1 [.int .u8 (128+8*(src%8)+base%8),.int .u8 36,.int .u8 (aa%256),.int .u8 (aa / 256%256),.int .u8 (aa / 65536%256),.int .u8 (aa / 16777216%256)]]) 1 (.aj .tight 1 []) rfl,.len 0 2147483648 (by decide),tT,tT,.get ([.aj .tight 0 [],.aj .tight 1 [],.aj .tight 1 [.int .u8 137],.aj .no 1 [.int .u8 (128+8*(src%8)+base%8),.int .u8 36,.int .u8 (aa%256),.int .u8 (aa / 256%256),.int .u8 (aa / 65536%256),.int .u8 (aa / 16777216%256)]]) 2 (.aj .tight 1 [.int .u8 137]) rfl,.len 1 2147483648 (by decide),tT,tT,.get ([.aj .tight 0 [],.aj .tight 1 [],.aj .tight 1 [.int .u8 137],.aj .no 1 [.int .u8 (128+8*(src%8)+base%8),.int .u8 36,.int .u8 (aa%256),.int .u8 (aa / 256%256),.int .u8 (aa / 65536%256),.int .u8 (aa / 16777216%256)]]) 3 (.aj .no 1 [.int .u8 (128+8*(src%8)+base%8),.int .u8 36,.int .u8 (aa%256),.int .u8 (aa / 256%256),.int .u8 (aa / 65536%256),.int .u8 (aa / 16777216%256)]) rfl,.len 7 2147483648 (by decide),tF]) (by kernel_rfl)).to (by clear E1 E2;(subst_vars;(try simp only [bI] at*);(try simp only [beq_iff_eq] at h);(try simp only [decide_eq_true_eq,decide_eq_false_iff_not] at*);simp_all [wk,ax,aO,aM,bD,cq,de,bM,dD,dN,bp,cI,aA];done))
 have O3:= @eV src base aa s0 s1 b0 b1 p0 p1 h29
 exact (js (d:= .aC [.aj (.fresh 1) 1 [.int .u8 137,.int .u8 (128+8*(src%8)+base%8),.int .u8 (aa%256),.int .u8 (aa / 256%256),.int .u8 (aa / 65536%256),.int .u8 (aa / 16777216%256)],.int .i64 0]) (E2++ [tC (aw h9),.ret _ _ _ Sr,.inl,.ret _ _ _ O3,.inl,.go 64,tT,tT,.get ([.aj .tight 0 [],.aj .tight 1 [],.aj .tight 1 [.int .u8 137],.aj .no 1 [.int .u8 (128+8*(src%8)+base%8),.int .u8 (aa%256),.int .u8 (aa / 256%256),.int .u8 (aa / 65536%256),.int .u8 (aa / 16777216%256)]]) 0 (.aj .tight 0 []) rfl,.len 0 2147483648 (by decide),tT,tT,.get ([.aj .tight 0 [],.aj .tight 1 [],.aj .tight 1 [.int .u8 137],.aj .no 1 [.int .u8 (128+8*(src%8)+base%8),.int .u8 (aa%256),.int .u8 (aa / 256%256),.int .u8 (aa / 65536%256),.int .u8 (aa / 16777216%256)]]) 1 (.aj .tight 1 []) rfl,.len 0 2147483648 (by decide),tT,tT,.get ([.aj .tight 0 [],.aj .tight 1 [],.aj .tight 1 [.int .u8 137],.aj .no 1 [.int .u8 (128+8*(src%8)+base%8),.int .u8 (aa%256),.int .u8 (aa / 256%256),.int .u8 (aa / 65536%256),.int .u8 (aa / 16777216%256)]]) 2 (.aj .tight 1 [.int .u8 137]) rfl,.len 1 2147483648 (by decide),tT,tT,.get ([.aj .tight 0 [],.aj .tight 1 [],.aj .tight 1 [.int .u8 137],.aj .no 1 [.int .u8 (128+8*(src%8)+base%8),.int .u8 (aa%256),.int .u8 (aa / 256%256),.int .u8 (aa / 65536%256),.int .u8 (aa / 16777216%256)]]) 3 (.aj .no 1 [.int .u8 (128+8*(src%8)+base%8),.int .u8 (aa%256),.int .u8 (aa / 256%256),.int .u8 (aa / 65536%256),.int .u8 (aa / 16777216%256)]) rfl,.len 6 2147483648 (by decide),tF]) (by kernel_rfl)).to (by clear E1 E2;(subst_vars;(try simp only [bI] at*);(try simp only [beq_iff_eq] at h);(try simp only [decide_eq_true_eq,decide_eq_false_iff_not] at*);simp_all [wk,ax,aO,aM,bD,cq,de,bM,dD,dN,bp,cI,aA];done))
def pQ (Me:Int):Prop:= ∀(w dst src base aa ai cc:Int) (d0:0≤dst) (d1:dst≤15) (s0:0≤src) (s1:src≤15) (b0:0≤base) (b1:base≤15) (p0: -2147483648≤aa) (p1:aa≤2147483647) (i0: -2147483648≤ai) (i1:ai≤2147483647) (c0:0≤cc) (c1:cc≤15) (hm:ct Me w dst src base aa ai cc=true),aF Tryz.prog 43 ([xD Me w dst src base aa ai cc]) (.aC [.aj .no 1 (bD (aM Me w dst src base aa ai cc)),.int .i64 0])
theorem vG:pQ 28:=by
 intro w dst src base aa ai cc d0 d1 s0 s1 b0 b1 p0 p1 i0 i1 c0 c1 hm
 have c0:= @aK 28 w dst src base aa ai cc (by decide)
 rw [show (ct 28 w dst src base aa ai cc)=true from hm] at c0
 have c1:= @cj 28 (by decide)
 by_cases h2:w=8
 ·subst h2
  exact (js (d:= .aC [.aj .tight 1 [.int .u8 235,.int .u8 (T8.wrap T8.u8 ai)],.int .i64 0]) ([.ret _ _ _ c0,tF,.ret _ _ _ c1]++Sx 8 tF++ [tT,tT]) (by kernel_rfl)).to (by (subst_vars;(try simp only [bI] at*);(try simp only [beq_iff_eq] at h);(try simp only [decide_eq_true_eq,decide_eq_false_iff_not] at*);simp_all [wk,ax,aO,aM,show aA 28=9 from rfl,bD,cq,de,bM,dD];done))
 have c3:= @kj ai
 exact (js (d:= .aC [.aj (.fresh 1) 1 [.int .u8 233,.int .u8 (ai%256),.int .u8 (ai / 256%256),.int .u8 (ai / 65536%256),.int .u8 (ai / 16777216%256)],.int .i64 0]) ([.ret _ _ _ c0,tF,.ret _ _ _ c1]++Sx 8 tF++ [tT,tC (aw h2),.ret _ _ _ c3,.inl,.go 64,tT,tT,.get ([.aj .tight 1 [.int .u8 233],.aj .no 1 [.int .u8 (ai%256),.int .u8 (ai / 256%256),.int .u8 (ai / 65536%256),.int .u8 (ai / 16777216%256)]]) 0 (.aj .tight 1 [.int .u8 233]) rfl,.len 1 2147483648 (by decide),tT,tT,.get ([.aj .tight 1 [.int .u8 233],.aj .no 1 [.int .u8 (ai%256),.int .u8 (ai / 256%256),.int .u8 (ai / 65536%256),.int .u8 (ai / 16777216%256)]]) 1 (.aj .no 1 [.int .u8 (ai%256),.int .u8 (ai / 256%256),.int .u8 (ai / 65536%256),.int .u8 (ai / 16777216%256)]) rfl,.len 5 2147483648 (by decide),tF]) (by kernel_rfl)).to (by (subst_vars;(try simp only [bI] at*);(try simp only [beq_iff_eq] at h);(try simp only [decide_eq_true_eq,decide_eq_false_iff_not] at*);simp_all [wk,ax,aO,aM,show aA 28=9 from rfl,bD,cq,de,bM,dD];done))
theorem vF:pQ 29:=by
 intro w dst src base aa ai cc d0 d1 s0 s1 b0 b1 p0 p1 i0 i1 c0 c1 hm
 have c0:= @aK 29 w dst src base aa ai cc (by decide)
 rw [show (ct 29 w dst src base aa ai cc)=true from hm] at c0
 have c1:= @cj 29 (by decide)
 by_cases h2:w=8
 ·subst h2
  exact (js (d:= .aC [.aj .tight 1 [.int .u8 (T8.wrap T8.u8 (112+T8.wrap T8.u8 cc)),.int .u8 (T8.wrap T8.u8 ai)],.int .i64 0]) ([.ret _ _ _ c0,tF,.ret _ _ _ c1]++Sx 9 tF++ [tT,tT]) (by kernel_rfl)).to (by (subst_vars;(try simp only [bI] at*);(try simp only [beq_iff_eq] at h);(try simp only [decide_eq_true_eq,decide_eq_false_iff_not] at*);simp_all [wk,ax,aO,aM,show aA 29=10 from rfl,bD,cq,de,bM,dD];omega))
 have c3:= @kj ai
 exact (js (d:= .aC [.aj (.fresh 1) 1 [.int .u8 15,.int .u8 (T8.wrap T8.u8 (128+T8.wrap T8.u8 cc)),.int .u8 (ai%256),.int .u8 (ai / 256%256),.int .u8 (ai / 65536%256),.int .u8 (ai / 16777216%256)],.int .i64 0]) ([.ret _ _ _ c0,tF,.ret _ _ _ c1]++Sx 9 tF++ [tT,tC (aw h2),.ret _ _ _ c3,.inl,.go 64,tT,tT,.get ([.aj .tight 1 [.int .u8 15,.int .u8 (T8.wrap T8.u8 (128+T8.wrap T8.u8 cc))],.aj .no 1 [.int .u8 (ai%256),.int .u8 (ai / 256%256),.int .u8 (ai / 65536%256),.int .u8 (ai / 16777216%256)]]) 0 (.aj .tight 1 [.int .u8 15,.int .u8 (T8.wrap T8.u8 (128+T8.wrap T8.u8 cc))]) rfl,.len 2 2147483648 (by decide),tT,tT,.get ([.aj .tight 1 [.int .u8 15,.int .u8 (T8.wrap T8.u8 (128+T8.wrap T8.u8 cc))],.aj .no 1 [.int .u8 (ai%256),.int .u8 (ai / 256%256),.int .u8 (ai / 65536%256),.int .u8 (ai / 16777216%256)]]) 1 (.aj .no 1 [.int .u8 (ai%256),.int .u8 (ai / 256%256),.int .u8 (ai / 65536%256),.int .u8 (ai / 16777216%256)]) rfl,.len 6 2147483648 (by decide),tF]) (by kernel_rfl)).to (by (subst_vars;(try simp only [bI] at*);(try simp only [beq_iff_eq] at h);(try simp only [decide_eq_true_eq,decide_eq_false_iff_not] at*);simp_all [wk,ax,aO,aM,show aA 29=10 from rfl,bD,cq,de,bM,dD];omega))
theorem vE:pQ 30:=by
 intro w dst src base aa ai cc d0 d1 s0 s1 b0 b1 p0 p1 i0 i1 c0 c1 hm
 have c0:= @aK 30 w dst src base aa ai cc (by decide)
 rw [show (ct 30 w dst src base aa ai cc)=true from hm] at c0
 have c1:= @cj 30 (by decide)
 exact (js (d:= .aC [.aj .tight 1 [.int .u8 195],.int .i64 0]) ([.ret _ _ _ c0,tF,.ret _ _ _ c1]++Sx 11 tF) (by kernel_rfl)).to (by (subst_vars;(try simp only [bI] at*);(try simp only [beq_iff_eq] at h);(try simp only [decide_eq_true_eq,decide_eq_false_iff_not] at*);simp_all [wk,ax,aO,aM,show aA 30=11 from rfl,bD,cq,de,bM,dD];done))
theorem vD:pQ 31:=by
 intro w dst src base aa ai cc d0 d1 s0 s1 b0 b1 p0 p1 i0 i1 c0 c1 hm
 have c0:= @aK 31 w dst src base aa ai cc (by decide)
 rw [show (ct 31 w dst src base aa ai cc)=true from hm] at c0
 have c1:= @cj 31 (by decide)
 exact (js (d:= .aC [.aj .tight 1 [.int .u8 15,.int .u8 5],.int .i64 0]) ([.ret _ _ _ c0,tF,.ret _ _ _ c1]++Sx 10 tF++ [tT]) (by kernel_rfl)).to (by (subst_vars;(try simp only [bI] at*);(try simp only [beq_iff_eq] at h);(try simp only [decide_eq_true_eq,decide_eq_false_iff_not] at*);simp_all [wk,ax,aO,aM,show aA 31=11 from rfl,bD,cq,de,bM,dD];done))
theorem Co (op:Int):0≤cI op∧cI op≤7:=by
 unfold cI
 repeat' split
 all_goals omega
theorem GX {op w dst src base aa ai cc:Int} (h:ct op w dst src base aa ai cc=true):0≤cc∧cc≤15:=by
 have hs:=(dF h).2
 unfold iw at hs
 repeat' split at hs
 all_goals first|(cases hs;done)|(simp only [fE,Bool.and_eq_true,decide_eq_true_eq] at hs;omega)
theorem vC (op w dst src base aa ai cc:Int) (ho:op≤127) (hm:ct op w dst src base aa ai cc=true):
  aF Tryz.prog 43 [xD op w dst src base aa ai cc] (.aC [.aj .no 1 (bD (aM op w dst src base aa ai cc)),.int .i64 0]):=by
 obtain ⟨⟨d0,d1,s0,s1,b0,b1,p0,p1,i0,i1⟩,hs⟩:=dF hm
 obtain ⟨c0,c1⟩:=GX hm
 obtain ⟨n0,n1⟩:=Co op
 have Oq:aA op≠0:=by
  intro e
  rw [e] at hs
  simp [iw] at hs
 obtain ⟨k,e⟩:=uN Oq
 have L1:decide (0≤op∧op≤31)=true:=by rw [e];simp;omega
 have hr:=jn k
 rw [← e] at hr
 rcases hr with h|h|h|h|h|h|h|h|h|h|h
 ·exact zH _ _ _ _ _ _ _ _ ho d0 d1 s0 s1 b0 b1 p0 p1 i0 i1 c0 c1 n0 n1 (by rw [h];rfl) L1 hm
 ·have e2:op=16:=by
   rw [e] at h ⊢
   revert h
   exact (by decide+kernel:∀n:Fin 32,aA (n.val:Int)=2→(n.val:Int)=16) k
  subst e2
  exact vK _ _ _ _ _ _ _ d0 d1 s0 s1 b0 b1 p0 p1 i0 i1 c0 c1 hm
 ·exact zG _ _ _ _ _ _ _ _ ho d0 d1 s0 s1 b0 b1 p0 p1 i0 i1 c0 c1 n0 n1 (by rw [h];rfl) L1 (kh (by rw [h] at hs;simp [iw] at hs;exact hs.1)) hm
 ·exact zF _ _ _ _ _ _ _ _ ho d0 d1 s0 s1 b0 b1 p0 p1 i0 i1 c0 c1 n0 n1 (by rw [h];rfl) L1 hm
 ·exact zE _ _ _ _ _ _ _ _ ho d0 d1 s0 s1 b0 b1 p0 p1 i0 i1 c0 c1 n0 n1 (by rw [h];rfl) L1 hm
 ·have e2:op=25:=by rw [e] at h ⊢;exact ur k h
  subst e2
  exact vJ _ _ _ _ _ _ _ d0 d1 s0 s1 b0 b1 p0 p1 i0 i1 c0 c1 hm
 ·have e2:op=26:=by rw [e] at h ⊢;exact uq k h
  subst e2
  exact vI _ _ _ _ _ _ _ d0 d1 s0 s1 b0 b1 p0 p1 i0 i1 c0 c1 hm
 ·have e2:op=27:=by rw [e] at h ⊢;exact uo k h
  subst e2
  exact vH _ _ _ _ _ _ _ d0 d1 s0 s1 b0 b1 p0 p1 i0 i1 c0 c1 hm
 ·have e2:op=28:=by rw [e] at h ⊢;exact um k h
  subst e2
  exact vG _ _ _ _ _ _ _ d0 d1 s0 s1 b0 b1 p0 p1 i0 i1 c0 c1 hm
 ·have e2:op=29:=by rw [e] at h ⊢;exact ql k h
  subst e2
  exact vF _ _ _ _ _ _ _ d0 d1 s0 s1 b0 b1 p0 p1 i0 i1 c0 c1 hm
 ·rcases qk k (by rw [e] at h;exact h) with e2|e2
  ·rw [← e] at e2;subst e2
   exact vE _ _ _ _ _ _ _ d0 d1 s0 s1 b0 b1 p0 p1 i0 i1 c0 c1 hm
  ·rw [← e] at e2;subst e2
   exact vD _ _ _ _ _ _ _ d0 d1 s0 s1 b0 b1 p0 p1 i0 i1 c0 c1 hm
theorem xu (op w dst src base aa ai cc:Int) (ho:op≤127) (hm:ct op w dst src base aa ai cc=false):aF Tryz.prog 43 ([xD op w dst src base aa ai cc]) (.aC [.aj .no 1 [],.int .i64 2]):=by
 have c0:= @aK op w dst src base aa ai cc ho
 rw [show (ct op w dst src base aa ai cc)=false from hm] at c0
 exact (js (d:= .aC [.aj .tight 0 [],.int .i64 2]) [.ret _ _ _ c0,tT] (by kernel_rfl)).to (by simp [wk,ax,aO])
theorem iP (op w dst src base aa ai cc:Int) (ho:op≤127):aF Tryz.prog 43 [xD op w dst src base aa ai cc] (.aC [.aj .no 1 (rO op w dst src base aa ai cc),.int .i64 (zI op w dst src base aa ai cc)]):=by
 unfold rO zI
 cases h:ct op w dst src base aa ai cc
 ·exact xu op w dst src base aa ai cc ho h
 ·exact vC op w dst src base aa ai cc ho h
theorem b9 (op w dst src base aa ai cc:Int) (ho:op≤127):aF Tryz.prog 116 ([xD op w dst src base aa ai cc]) (.int .i64 (dJ op w dst src base aa ai cc)):=by
 have c0:= @iP op w dst src base aa ai cc ho
 exact (Kx (d:= .int .i64 (↑(SA (rO op w dst src base aa ai cc)):Int)) [.ret _ _ _ c0] (by kernel_rfl)).to (by simp [wk,dJ])
theorem H4 (b:List Int) (s:av):aP Tryz.prog (cu Tryz.f141 0) ⟨[],[1,2,3,5],[]⟩ 9 [D.hE 5,.ptr false 4 0,uu,.ptr false 7 0,uu,uu,uu,uu,uu,uu,uu,uu,uu,uu,uu,.agg iG,.int .i64 32,uu,uu,uu,uu,uu,uu,uu,uu,uu,uu,uu,uu,uu,uu,uu,uu] [.box [.aj .no 1 (bD b)],.box [.int .i8 0,.int .i8 0,.int .i8 0,.int .i8 0,.int .i8 0,.int .i64 0,.int .i64 0,.int .i8 0],.box [.int .i64 0],.box [.int .i64 0],.box [.aj .no 1 (bD b)],
 Ob.lp Lk.ready
  (let y:=
   let y:=
    let y:= [uu,uu,uu,uu,uu];
    uu::uu::uu::uu::uu::y;
   let y:=uu::uu::uu::uu::uu::y;
   uu::uu::uu::uu::uu::y;
  let y:=
   let y:=uu::uu::uu::uu::uu::y;
   uu::uu::uu::uu::uu::y;
  let y:= .ptr false 3 0::uu::uu::uu::uu::y;
  uu:: .ptr false 0 0:: .ptr false 1 0:: .ptr false 2 0::y)
  #[10] (a8 Tryz.f81 0) (a7 Tryz.f81 0),
 .dead,.box [.int .i8 (av.w s),.bool (av.dZ s),.int .u8 (av.code s),.int .i8 (av.r s),.int .i8 (av.m s),.int .i64 (av.aa s),.int .i64 (av.ai s),.int .i64 (av.small s),.int .i64 (av.eQ s),.int .i64 (av.fB s),.int .i8 (av.high s)],.dead] (Ex.exit 0) [uu,uu,uu,uu,uu,uu,uu,uu,uu,uu,uu,uu,uu,uu,uu,uu,uu,uu,uu,uu,uu,uu,uu,uu,uu,uu,uu,uu,uu,uu,uu,uu,uu] ([.dead,.box [.int .i8 0,.int .i8 0,.int .i8 0,.int .i8 0,.int .i8 0,.int .i64 0,.int .i64 0,.int .i8 0],.box [.int .i64 0],.box [.int .i64 0],.dead,Ob.lp Lk.ready [uu,.ptr false 0 0,.ptr false 1 0,.ptr false 2 0,.ptr false 3 0,uu,uu,uu,uu,uu,uu,uu,uu,uu,uu,uu,uu,uu,uu,uu,uu,uu,uu,uu,uu,uu,uu,uu,uu,uu,uu,uu,uu,uu,uu,uu,uu,uu,uu] #[10] (a8 Tryz.f81 0) (a7 Tryz.f81 0),.dead,.dead,.dead]):=by
 exact aP.ab mixed [tF] (by kernel_rfl)
theorem H2 (b own:List Int) (s:av) (k:Int) (k0:0≤k) (k1:k≤31) (v0:0≤s.code) (v1:s.code≤255) (hh:s.high=0∨s.high=8) (hy:aF Tryz.prog 72 [kI (eA s k)] (.bool false)):aP Tryz.prog (cu Tryz.f141 0) ⟨[0,1,3,15,16],[0,1,2,3,4,5,7],[]⟩ 9 [D.hE 5,.ptr false 4 0,uu,.ptr false 7 0,uu,uu,uu,uu,uu,uu,uu,uu,uu,uu,uu,.agg iG,.int .i64 k,uu,uu,uu,uu,uu,uu,uu,uu,uu,uu,uu,uu,uu,uu,uu,uu] [.box [.aj .no 1 (bD b)],.box [.int .i8 0,.int .i8 0,.int .i8 0,.int .i8 0,.int .i8 0,.int .i64 0,.int .i64 0,.int .i8 0],.box [.int .i64 0],.box [.int .i64 0],.box [.aj .no 1 (bD b)],
 Ob.lp Lk.ready
  (let y:=
   let y:=
    let y:= [uu,uu,uu,uu,uu];
    uu::uu::uu::uu::uu::y;
   let y:=uu::uu::uu::uu::uu::y;
   uu::uu::uu::uu::uu::y;
  let y:=
   let y:=uu::uu::uu::uu::uu::y;
   uu::uu::uu::uu::uu::y;
  let y:= .ptr false 3 0::uu::uu::uu::uu::y;
  uu:: .ptr false 0 0:: .ptr false 1 0:: .ptr false 2 0::y)
  #[10] (a8 Tryz.f81 0) (a7 Tryz.f81 0),
 .dead,.box [.int .i8 (av.w s),.bool (av.dZ s),.int .u8 (av.code s),.int .i8 (av.r s),.int .i8 (av.m s),.int .i64 (av.aa s),.int .i64 (av.ai s),.int .i64 (av.small s),.int .i64 (av.eQ s),.int .i64 (av.fB s),.int .i8 (av.high s)],.dead] .norm [D.hE 5,.ptr false 4 0,uu,.ptr false 7 0,uu,uu,uu,uu,uu,uu,uu,uu,uu,uu,uu,.agg iG,.int .i64 (T8.i64.wrap (k+1)),uu,uu,uu,uu,uu,uu,uu,uu,uu,uu,uu,uu,uu,uu,uu,uu] ([.box [.aj .no 1 (bD b)],.box [.int .i8 0,.int .i8 0,.int .i8 0,.int .i8 0,.int .i8 0,.int .i64 0,.int .i64 0,.int .i8 0],.box [.int .i64 0],.box [.int .i64 0],.box [.aj .no 1 (bD b)],.lp .ready [uu,.ptr false 0 0,.ptr false 1 0,.ptr false 2 0,.ptr false 3 0,uu,uu,uu,uu,uu,uu,uu,uu,uu,uu,uu,uu,uu,uu,uu,uu,uu,uu,uu,uu,uu,uu,uu,uu,uu,uu,uu,uu,uu,uu,uu,uu,uu,uu] #[10] (a8 Tryz.f81 0) (a7 Tryz.f81 0),.dead,.box [.int .i8 (av.w s),.bool (av.dZ s),.int .u8 (av.code s),.int .i8 (av.r s),.int .i8 (av.m s),.int .i64 (av.aa s),.int .i64 (av.ai s),.int .i64 (av.small s),.int .i64 (av.eQ s),.int .i64 (av.fB s),.int .i8 (av.high s)],.dead]):=by
 exact aP.ab mixed [tC (decide_eq_true (SC k1)),.cQ (decide (0≤k∧k<(↑(32:Nat):Int))) true (by (simp only [dX] at*;omega)),.ep _ _ _ _ (@ny k k0 k1),.ay _ _ _ _ _ (@A0 s k k0 k1 v0 v1 hh (.box [.aj .no 1 (bD b)]) (.box [.int .i8 0,.int .i8 0,.int .i8 0,.int .i8 0,.int .i8 0,.int .i64 0,.int .i64 0,.int .i8 0]) (.box [.int .i64 0]) (.box [.int .i64 0]) (.box [.aj .no 1 (bD b)]) (Ob.lp Lk.ready [uu,.ptr false 0 0,.ptr false 1 0,.ptr false 2 0,.ptr false 3 0,uu,uu,uu,uu,uu,uu,uu,uu,uu,uu,uu,uu,uu,uu,uu,uu,uu,uu,uu,uu,uu,uu,uu,uu,uu,uu,uu,uu,uu,uu,uu,uu,uu,uu] #[10] (a8 Tryz.f81 0) (a7 Tryz.f81 0)) (.dead) (.dead) (.box [.int .i8 (aA k),.int .u8 (bp k),.int .i8 (cI k)])),.ret _ _ _ hy,tF,tF,tF,tF,tF,tF] (by kernel_rfl)
theorem Gw (b own:List Int) (s:av) (k:Int) (k0:0≤k) (k1:k≤31) (v0:0≤s.code) (v1:s.code≤255) (hh:s.high=0∨s.high=8) (hy:aF Tryz.prog 72 [kI (eA s k)] (.bool true)) (hb:aF Tryz.prog 43 [kI (eA s k)] (.aC [.aj .no 1 (bD own),.int .i64 0])) (hl:((bD b).length:Int)<((bD own).length:Int)):aP Tryz.prog (cu Tryz.f141 0) ⟨[0,1,3,15,16],[0,1,2,3,4,5,7],[]⟩ 9 [D.hE 5,.ptr false 4 0,uu,.ptr false 7 0,uu,uu,uu,uu,uu,uu,uu,uu,uu,uu,uu,.agg iG,.int .i64 k,uu,uu,uu,uu,uu,uu,uu,uu,uu,uu,uu,uu,uu,uu,uu,uu] [.box [.aj .no 1 (bD b)],.box [.int .i8 0,.int .i8 0,.int .i8 0,.int .i8 0,.int .i8 0,.int .i64 0,.int .i64 0,.int .i8 0],.box [.int .i64 0],.box [.int .i64 0],.box [.aj .no 1 (bD b)],
 Ob.lp Lk.ready
  (let y:=
   let y:=
    let y:= [uu,uu,uu,uu,uu];
    uu::uu::uu::uu::uu::y;
   let y:=uu::uu::uu::uu::uu::y;
   uu::uu::uu::uu::uu::y;
  let y:=
   let y:=uu::uu::uu::uu::uu::y;
   uu::uu::uu::uu::uu::y;
  let y:= .ptr false 3 0::uu::uu::uu::uu::y;
  uu:: .ptr false 0 0:: .ptr false 1 0:: .ptr false 2 0::y)
  #[10] (a8 Tryz.f81 0) (a7 Tryz.f81 0),
 .dead,.box [.int .i8 (av.w s),.bool (av.dZ s),.int .u8 (av.code s),.int .i8 (av.r s),.int .i8 (av.m s),.int .i64 (av.aa s),.int .i64 (av.ai s),.int .i64 (av.small s),.int .i64 (av.eQ s),.int .i64 (av.fB s),.int .i8 (av.high s)],.dead] .norm [D.hE 5,.ptr false 4 0,uu,.ptr false 7 0,uu,uu,uu,uu,uu,uu,uu,uu,uu,uu,uu,.agg iG,.int .i64 (T8.i64.wrap (k+1)),uu,uu,uu,uu,uu,uu,uu,uu,uu,uu,uu,uu,uu,uu,uu,uu] ([.box [.aj .no 1 (bD b)],.box [.int .i8 0,.int .i8 0,.int .i8 0,.int .i8 0,.int .i8 0,.int .i64 0,.int .i64 0,.int .i8 0],.box [.int .i64 0],.box [.int .i64 0],.box [.aj .no 1 (bD b)],.lp .ready [uu,.ptr false 0 0,.ptr false 1 0,.ptr false 2 0,.ptr false 3 0,uu,uu,uu,uu,uu,uu,uu,uu,uu,uu,uu,uu,uu,uu,uu,uu,uu,uu,uu,uu,uu,uu,uu,uu,uu,uu,uu,uu,uu,uu,uu,uu,uu,uu] #[10] (a8 Tryz.f81 0) (a7 Tryz.f81 0),.dead,.box [.int .i8 (av.w s),.bool (av.dZ s),.int .u8 (av.code s),.int .i8 (av.r s),.int .i8 (av.m s),.int .i64 (av.aa s),.int .i64 (av.ai s),.int .i64 (av.small s),.int .i64 (av.eQ s),.int .i64 (av.fB s),.int .i8 (av.high s)],.dead]):=by
 exact aP.ab mixed ([tC (decide_eq_true (SC k1)),.cQ (decide (0≤k∧k<(↑(32:Nat):Int))) true (by (simp only [dX] at*;omega)),.ep _ _ _ _ (@ny k k0 k1),.ay _ _ _ _ _ (@A0 s k k0 k1 v0 v1 hh (.box [.aj .no 1 (bD b)]) (.box [.int .i8 0,.int .i8 0,.int .i8 0,.int .i8 0,.int .i8 0,.int .i64 0,.int .i64 0,.int .i8 0]) (.box [.int .i64 0]) (.box [.int .i64 0]) (.box [.aj .no 1 (bD b)]) (Ob.lp Lk.ready [uu,.ptr false 0 0,.ptr false 1 0,.ptr false 2 0,.ptr false 3 0,uu,uu,uu,uu,uu,uu,uu,uu,uu,uu,uu,uu,uu,uu,uu,uu,uu,uu,uu,uu,uu,uu,uu,uu,uu,uu,uu,uu,uu,uu,uu,uu,uu,uu] #[10] (a8 Tryz.f81 0) (a7 Tryz.f81 0)) (.dead) (.dead) (.box [.int .i8 (aA k),.int .u8 (bp k),.int .i8 (cI k)])),.ret _ _ _ hy,tT,tT,tT,.inl,.ret _ _ _ hb,tT,tT,tT,tT,tT,tT]++ [tC (eT (by (simp only [dX] at*;omega):(decide ((↑(SA (bD own)):Int)≤(↑(SA (bD b)):Int)))=false)),tC (eT (by (simp only [dX] at*;omega):(decide ((↑(SA (bD own)):Int)≤(↑(SA (bD b)):Int)))=false)),tC (eT (by (simp only [dX] at*;omega):(decide ((↑(SA (bD own)):Int)≤(↑(SA (bD b)):Int)))=false)),tC (eT (by (simp only [dX] at*;omega):(decide ((↑(SA (bD own)):Int)≤(↑(SA (bD b)):Int)))=false)),tC (eT (by (simp only [dX] at*;omega):(decide ((↑(SA (bD own)):Int)≤(↑(SA (bD b)):Int)))=false)),tC (eT (by (simp only [dX] at*;omega):(decide ((↑(SA (bD own)):Int)≤(↑(SA (bD b)):Int)))=false)),tC (eT (by (simp only [dX] at*;omega):(decide ((↑(SA (bD own)):Int)≤(↑(SA (bD b)):Int)))=false)),tC (eT (by (simp only [dX] at*;omega):(decide ((↑(SA (bD own)):Int)≤(↑(SA (bD b)):Int)))=false)),tC (by (simp only [dX] at*;omega):(decide ((↑(SA (bD own)):Int)≤(↑(SA (bD b)):Int)))=false),tF,tT,tT,tF]) (by kernel_rfl)
theorem H0 (b own:List Int) (s:av) (k:Int) (k0:0≤k) (k1:k≤31) (v0:0≤s.code) (v1:s.code≤255) (hh:s.high=0∨s.high=8) (hy:aF Tryz.prog 72 [kI (eA s k)] (.bool true)) (hb:aF Tryz.prog 43 [kI (eA s k)] (.aC [.aj .no 1 (bD own),.int .i64 0])) (hl:((bD own).length:Int)≤((bD b).length:Int)) (hs:((jZ (bD own)).toList==(jZ (List.take (Sz ((SA (bD own):Nat):Int)) (bD b))).toList)=false):aP Tryz.prog (cu Tryz.f141 0) ⟨[0,1,3,15,16],[0,1,2,3,4,5,7],[]⟩ 9 [D.hE 5,.ptr false 4 0,uu,.ptr false 7 0,uu,uu,uu,uu,uu,uu,uu,uu,uu,uu,uu,.agg iG,.int .i64 k,uu,uu,uu,uu,uu,uu,uu,uu,uu,uu,uu,uu,uu,uu,uu,uu] [.box [.aj .no 1 (bD b)],.box [.int .i8 0,.int .i8 0,.int .i8 0,.int .i8 0,.int .i8 0,.int .i64 0,.int .i64 0,.int .i8 0],.box [.int .i64 0],.box [.int .i64 0],.box [.aj .no 1 (bD b)],
 Ob.lp Lk.ready
  (let y:=
   let y:=
    let y:= [uu,uu,uu,uu,uu];
    uu::uu::uu::uu::uu::y;
   let y:=uu::uu::uu::uu::uu::y;
   uu::uu::uu::uu::uu::y;
  let y:=
   let y:=uu::uu::uu::uu::uu::y;
   uu::uu::uu::uu::uu::y;
  let y:= .ptr false 3 0::uu::uu::uu::uu::y;
  uu:: .ptr false 0 0:: .ptr false 1 0:: .ptr false 2 0::y)
  #[10] (a8 Tryz.f81 0) (a7 Tryz.f81 0),
 .dead,.box [.int .i8 (av.w s),.bool (av.dZ s),.int .u8 (av.code s),.int .i8 (av.r s),.int .i8 (av.m s),.int .i64 (av.aa s),.int .i64 (av.ai s),.int .i64 (av.small s),.int .i64 (av.eQ s),.int .i64 (av.fB s),.int .i8 (av.high s)],.dead] .norm [D.hE 5,.ptr false 4 0,uu,.ptr false 7 0,uu,uu,uu,uu,uu,uu,uu,uu,uu,uu,uu,.agg iG,.int .i64 (T8.i64.wrap (k+1)),uu,uu,uu,uu,uu,uu,uu,uu,uu,uu,uu,uu,uu,uu,uu,uu] ([.box [.aj .no 1 (bD b)],.box [.int .i8 0,.int .i8 0,.int .i8 0,.int .i8 0,.int .i8 0,.int .i64 0,.int .i64 0,.int .i8 0],.box [.int .i64 0],.box [.int .i64 0],.box [.aj .no 1 (bD b)],.lp .ready [uu,.ptr false 0 0,.ptr false 1 0,.ptr false 2 0,.ptr false 3 0,uu,uu,uu,uu,uu,uu,uu,uu,uu,uu,uu,uu,uu,uu,uu,uu,uu,uu,uu,uu,uu,uu,uu,uu,uu,uu,uu,uu,uu,uu,uu,uu,uu,uu] #[10] (a8 Tryz.f81 0) (a7 Tryz.f81 0),.dead,.box [.int .i8 (av.w s),.bool (av.dZ s),.int .u8 (av.code s),.int .i8 (av.r s),.int .i8 (av.m s),.int .i64 (av.aa s),.int .i64 (av.ai s),.int .i64 (av.small s),.int .i64 (av.eQ s),.int .i64 (av.fB s),.int .i8 (av.high s)],.dead]):=by
 exact aP.ab mixed ([tC (decide_eq_true (SC k1)),.cQ (decide (0≤k∧k<(↑(32:Nat):Int))) true (by (simp only [dX] at*;omega)),.ep _ _ _ _ (@ny k k0 k1),.ay _ _ _ _ _ (@A0 s k k0 k1 v0 v1 hh (.box [.aj .no 1 (bD b)]) (.box [.int .i8 0,.int .i8 0,.int .i8 0,.int .i8 0,.int .i8 0,.int .i64 0,.int .i64 0,.int .i8 0]) (.box [.int .i64 0]) (.box [.int .i64 0]) (.box [.aj .no 1 (bD b)]) (Ob.lp Lk.ready [uu,.ptr false 0 0,.ptr false 1 0,.ptr false 2 0,.ptr false 3 0,uu,uu,uu,uu,uu,uu,uu,uu,uu,uu,uu,uu,uu,uu,uu,uu,uu,uu,uu,uu,uu,uu,uu,uu,uu,uu,uu,uu,uu,uu,uu,uu,uu,uu] #[10] (a8 Tryz.f81 0) (a7 Tryz.f81 0)) (.dead) (.dead) (.box [.int .i8 (aA k),.int .u8 (bp k),.int .i8 (cI k)])),.ret _ _ _ hy,tT,tT,tT,.inl,.ret _ _ _ hb,tT,tT,tT,tT,tT,tT]++ [tC (eT (by (simp only [dX] at*;omega):(decide ((↑(SA (bD own)):Int)≤(↑(SA (bD b)):Int)))=true)),tC (eT (by (simp only [dX] at*;omega):(decide ((↑(SA (bD own)):Int)≤(↑(SA (bD b)):Int)))=true)),tC (v:=true) (@I8 own),tC (eT (by (simp only [dX] at*;omega):(decide ((↑(SA (bD own)):Int)≤(↑(SA (bD b)):Int)))=true)),tC (eT (by (simp only [dX] at*;omega):(decide ((↑(SA (bD own)):Int)≤(↑(SA (bD b)):Int)))=true)),tC (eT (by (simp only [dX] at*;omega):(decide ((↑(SA (bD own)):Int)≤(↑(SA (bD b)):Int)))=true)),tC (eT (by (simp only [dX] at*;omega):(decide ((↑(SA (bD own)):Int)≤(↑(SA (bD b)):Int)))=true)),.cQ (decide (0≤(↑(SA (bD own)):Int)∧(↑(SA (bD own)):Int)≤(↑(SA (bD b)):Int))) true (by (simp only [dX] at*;omega)),tC (eT (by (simp only [dX] at*;omega):(decide ((↑(SA (bD own)):Int)≤(↑(SA (bD b)):Int)))=true)),tC (v:=true) (@tG b (Sz (↑(SA (bD own)):Int))),tC (eT (by (simp only [dX] at*;omega):(decide ((↑(SA (bD own)):Int)≤(↑(SA (bD b)):Int)))=true)),tC (by (simp only [dX] at*;omega):(decide ((↑(SA (bD own)):Int)≤(↑(SA (bD b)):Int)))=true),tC hs,tT,tT,tF]) (by kernel_rfl)
theorem H3 (b own:List Int) (s:av) (k:Int) (k0:0≤k) (k1:k≤31) (v0:0≤s.code) (v1:s.code≤255) (hh:s.high=0∨s.high=8) (hy:aF Tryz.prog 72 [kI (eA s k)] (.bool true)) (hb:aF Tryz.prog 43 [kI (eA s k)] (.aC [.aj .no 1 (bD own),.int .i64 0])) (hl:((bD own).length:Int)≤((bD b).length:Int)) (hs:((jZ (bD own)).toList==(jZ (List.take (Sz ((SA (bD own):Nat):Int)) (bD b))).toList)=true):aP Tryz.prog (cu Tryz.f141 0) ⟨[],[1,2,3,5],[]⟩ 9 [D.hE 5,.ptr false 4 0,uu,.ptr false 7 0,uu,uu,uu,uu,uu,uu,uu,uu,uu,uu,uu,.agg iG,.int .i64 k,uu,uu,uu,uu,uu,uu,uu,uu,uu,uu,uu,uu,uu,uu,uu,uu] [.box [.aj .no 1 (bD b)],.box [.int .i8 0,.int .i8 0,.int .i8 0,.int .i8 0,.int .i8 0,.int .i64 0,.int .i64 0,.int .i8 0],.box [.int .i64 0],.box [.int .i64 0],.box [.aj .no 1 (bD b)],
 Ob.lp Lk.ready
  (let y:=
   let y:=
    let y:= [uu,uu,uu,uu,uu];
    uu::uu::uu::uu::uu::y;
   let y:=uu::uu::uu::uu::uu::y;
   uu::uu::uu::uu::uu::y;
  let y:=
   let y:=uu::uu::uu::uu::uu::y;
   uu::uu::uu::uu::uu::y;
  let y:= .ptr false 3 0::uu::uu::uu::uu::y;
  uu:: .ptr false 0 0:: .ptr false 1 0:: .ptr false 2 0::y)
  #[10] (a8 Tryz.f81 0) (a7 Tryz.f81 0),
 .dead,.box [.int .i8 (av.w s),.bool (av.dZ s),.int .u8 (av.code s),.int .i8 (av.r s),.int .i8 (av.m s),.int .i64 (av.aa s),.int .i64 (av.ai s),.int .i64 (av.small s),.int .i64 (av.eQ s),.int .i64 (av.fB s),.int .i8 (av.high s)],.dead] (Ex.ret) [uu,uu,uu,uu,uu,uu,uu,uu,uu,uu,uu,uu,uu,uu,uu,uu,uu,uu,uu,uu,uu,uu,uu,uu,uu,uu,uu,uu,uu,uu,uu,uu,uu] ([.dead,.box [.int .i8 (XS.op (eA s k)),.int .i8 (XS.w (eA s k)),.int .i8 (XS.dst (eA s k)),.int .i8 (XS.src (eA s k)),.int .i8 (XS.base (eA s k)),.int .i64 (XS.aa (eA s k)),.int .i64 (XS.ai (eA s k)),.int .i8 (XS.cc (eA s k))],.box [.int .i64 (↑(SA (bD own)):Int)],.box [.int .i64 0],.dead,Ob.lp Lk.ret [uu,.ptr false 0 0,.ptr false 1 0,.ptr false 2 0,.ptr false 3 0,uu,uu,uu,uu,uu,uu,uu,uu,uu,uu,uu,uu,uu,uu,uu,uu,uu,uu,uu,uu,uu,uu,uu,uu,uu,uu,uu,uu,uu,uu,uu,uu,uu,uu] #[10] (a8 Tryz.f81 0) (a7 Tryz.f81 0),.dead,.dead,.dead]):=by
 exact aP.ab mixed ([tC (decide_eq_true (SC k1)),.cQ (decide (0≤k∧k<(↑(32:Nat):Int))) true (by (simp only [dX] at*;omega)),.ep _ _ _ _ (@ny k k0 k1),.ay _ _ _ _ _ (@A0 s k k0 k1 v0 v1 hh (.box [.aj .no 1 (bD b)]) (.box [.int .i8 0,.int .i8 0,.int .i8 0,.int .i8 0,.int .i8 0,.int .i64 0,.int .i64 0,.int .i8 0]) (.box [.int .i64 0]) (.box [.int .i64 0]) (.box [.aj .no 1 (bD b)]) (Ob.lp Lk.ready [uu,.ptr false 0 0,.ptr false 1 0,.ptr false 2 0,.ptr false 3 0,uu,uu,uu,uu,uu,uu,uu,uu,uu,uu,uu,uu,uu,uu,uu,uu,uu,uu,uu,uu,uu,uu,uu,uu,uu,uu,uu,uu,uu,uu,uu,uu,uu,uu] #[10] (a8 Tryz.f81 0) (a7 Tryz.f81 0)) (.dead) (.dead) (.box [.int .i8 (aA k),.int .u8 (bp k),.int .i8 (cI k)])),.ret _ _ _ hy,tT,tT,tT,.inl,.ret _ _ _ hb,tT,tT,tT,tT,tT,tT]++ [tC (eT (by (simp only [dX] at*;omega):(decide ((↑(SA (bD own)):Int)≤(↑(SA (bD b)):Int)))=true)),tC (eT (by (simp only [dX] at*;omega):(decide ((↑(SA (bD own)):Int)≤(↑(SA (bD b)):Int)))=true)),tC (v:=true) (@I8 own),tC (eT (by (simp only [dX] at*;omega):(decide ((↑(SA (bD own)):Int)≤(↑(SA (bD b)):Int)))=true)),tC (eT (by (simp only [dX] at*;omega):(decide ((↑(SA (bD own)):Int)≤(↑(SA (bD b)):Int)))=true)),tC (eT (by (simp only [dX] at*;omega):(decide ((↑(SA (bD own)):Int)≤(↑(SA (bD b)):Int)))=true)),tC (eT (by (simp only [dX] at*;omega):(decide ((↑(SA (bD own)):Int)≤(↑(SA (bD b)):Int)))=true)),.cQ (decide (0≤(↑(SA (bD own)):Int)∧(↑(SA (bD own)):Int)≤(↑(SA (bD b)):Int))) true (by (simp only [dX] at*;omega)),tC (eT (by (simp only [dX] at*;omega):(decide ((↑(SA (bD own)):Int)≤(↑(SA (bD b)):Int)))=true)),tC (v:=true) (@tG b (Sz (↑(SA (bD own)):Int))),tC (eT (by (simp only [dX] at*;omega):(decide ((↑(SA (bD own)):Int)≤(↑(SA (bD b)):Int)))=true)),tC (by (simp only [dX] at*;omega):(decide ((↑(SA (bD own)):Int)≤(↑(SA (bD b)):Int)))=true),tC hs,tT,tT,tT]) (by kernel_rfl)
abbrev gT (n:Int):List D:= [.hE 5,.ptr false 4 0,.undef,.ptr false 7 0,.undef,.undef,.undef,.undef,.undef,.undef,.undef,.undef,.undef,.undef,.undef,.agg iG,.int .i64 n,.undef,.undef,.undef,.undef,.undef,.undef,.undef,.undef,.undef,.undef,.undef,.undef,.undef,.undef,.undef,.undef]
abbrev gU:List D:= [.undef,.undef,.undef,.undef,.undef,.undef,.undef,.undef,.undef,.undef,.undef,.undef,.undef,.undef,.undef,.undef,.undef,.undef,.undef,.undef,.undef,.undef,.undef,.undef,.undef,.undef,.undef,.undef,.undef,.undef,.undef,.undef,.undef]
abbrev KE (ag bd:Code) (k:Lk):Ob:= .lp k [.undef,.ptr false 0 0,.ptr false 1 0,.ptr false 2 0,.ptr false 3 0,.undef,.undef,.undef,.undef,.undef,.undef,.undef,.undef,.undef,.undef,.undef,.undef,.undef,.undef,.undef,.undef,.undef,.undef,.undef,.undef,.undef,.undef,.undef,.undef,.undef,.undef,.undef,.undef,.undef,.undef,.undef,.undef,.undef,.undef] #[10] ag bd
abbrev KW:Ob:= .box [.int .i8 0,.int .i8 0,.int .i8 0,.int .i8 0,.int .i8 0,.int .i64 0,.int .i64 0,.int .i8 0]
abbrev gS (ag bd:Code) (b:List Int) (s:av):List Ob:= [.box [.aj .no 1 (bD b)],KW,.box [.int .i64 0],.box [.int .i64 0],.box [.aj .no 1 (bD b)],KE ag bd .ready,.dead,
  .box [.int .i8 s.w,.bool s.dZ,.int .u8 s.code,.int .i8 s.r,.int .i8 s.m,.int .i64 s.aa,.int .i64 s.ai,.int .i64 s.small,.int .i64 s.eQ,.int .i64 s.fB,.int .i8 s.high],.dead]
abbrev KX:Option XS→Ex
  |none=> .exit 0
  |some _=> .ret
abbrev G8 (ag bd:Code):Option XS→List Ob
  |none=> [.dead,KW,.box [.int .i64 0],.box [.int .i64 0],.dead,KE ag bd .ready,.dead,.dead,.dead]
  |some x=> [.dead,.box [.int .i8 x.op,.int .i8 x.w,.int .i8 x.dst,.int .i8 x.src,.int .i8 x.base,.int .i64 x.aa,.int .i64 x.ai,.int .i8 x.cc],.box [.int .i64 (fJ x).length],.box [.int .i64 0],.dead,KE ag bd .ret,.dead,.dead,.dead]
theorem ki (b:List Int) (hb:fO b) (s:av) (v0:0≤s.code) (v1:s.code≤255) (hh:s.high=0∨s.high=8):∀(m n:Nat),n+m=32→
  bJ Tryz.prog (cu Tryz.f141 0) 9 (gT n) (gS (a8 Tryz.f81 0) (a7 Tryz.f81 0) b s) (KX (eO b s (gV.drop n))) gU (G8 (a8 Tryz.f81 0) (a7 Tryz.f81 0) (eO b s (gV.drop n)))
 |0,n,hn=>by
  obtain rfl:n=32:=by omega
  exact bJ.last (H4 b s) (fun h=>by cases h)
 |m+1,n,hn=>by
  have LN:n<32:=by omega
  rw [Eh LN]
  have NH:=I2 s (n:Int)
  have hle:(eA s (n:Int)).op≤127:=by rw [NH];omega
  have hw:T8.i64.wrap ((n:Int)+1)=((n+1:Nat):Int):=by rw [cD];omega
  have ih:=ki b hb s v0 v1 hh m (n+1) (by omega)
  have hy:aF Tryz.prog 72 [kI (eA s (n:Int))] (.bool (wV (eA s (n:Int)))):=aK _ _ _ _ _ _ _ _ hle
  have go:∀ {t2:List D} {s2:List Ob},aP Tryz.prog (cu Tryz.f141 0) ⟨[0,1,3,15,16],[0,1,2,3,4,5,7],[]⟩ 9 (gT n) (gS (a8 Tryz.f81 0) (a7 Tryz.f81 0) b s) .norm (gT (T8.i64.wrap ((n:Int)+1))) (gS (a8 Tryz.f81 0) (a7 Tryz.f81 0) b s)→jV b (eA s (n:Int))=false→
    bJ Tryz.prog (cu Tryz.f141 0) 9 (gT n) (gS (a8 Tryz.f81 0) (a7 Tryz.f81 0) b s) (KX (eO b s ((n:Int)::gV.drop (n+1)))) gU (G8 (a8 Tryz.f81 0) (a7 Tryz.f81 0) (eO b s ((n:Int)::gV.drop (n+1)))):=by
   intro _ _ h hf
   have e:eO b s ((n:Int)::gV.drop (n+1))=eO b s (gV.drop (n+1)):=by simp only [eO,hf,Bool.false_eq_true,if_false]
   rw [e]
   rw [hw] at h
   exact bJ.gz h ih
  cases hm:wV (eA s (n:Int)) with
  |false=>
   rw [hm] at hy
   exact go (t2:= []) (s2:= []) (H2 b [] s n (by omega) (by omega) v0 v1 hh hy) (by simp [jV,hm])
  |true=>
   rw [hm] at hy
   have ho:=xv hm
   have RU:aF Tryz.prog 43 [kI (eA s (n:Int))] (.aC [.aj .no 1 (bD (fJ (eA s (n:Int)))),.int .i64 0]):=by
    have:=iP (eA s (n:Int)).op (eA s (n:Int)).w (eA s (n:Int)).dst (eA s (n:Int)).src (eA s (n:Int)).base (eA s (n:Int)).aa (eA s (n:Int)).ai (eA s (n:Int)).cc hle
    have O0:ct (eA s (n:Int)).op (eA s (n:Int)).w (eA s (n:Int)).dst (eA s (n:Int)).src (eA s (n:Int)).base (eA s (n:Int)).aa (eA s (n:Int)).ai (eA s (n:Int)).cc=true:=hm
    simp only [rO,zI,O0,if_true] at this
    exact this
   have MX:=G9 ho hb
   by_cases hp:(fJ (eA s (n:Int))).isPrefixOf b=true
   ·obtain ⟨h1,h2⟩:=MX.1 hp
    have e:eO b s ((n:Int)::gV.drop (n+1))=some (eA s (n:Int)):=by simp only [eO,jV,hm,hp,Bool.and_self,if_true]
    rw [e]
    have:=H3 b (fJ (eA s (n:Int))) s n (by omega) (by omega) v0 v1 hh hy RU h1 h2
    rw [aN] at this
    exact bJ.last this (fun h=>by cases h)
   ·have hf:jV b (eA s (n:Int))=false:=by simp [jV,hm,hp]
    by_cases hl:((bD (fJ (eA s (n:Int)))).length:Int)≤((bD b).length:Int)
    ·have hs:((jZ (bD (fJ (eA s (n:Int))))).toList==(jZ (List.take (Sz ((SA (bD (fJ (eA s (n:Int)))):Nat):Int)) (bD b))).toList)=false:=by
      cases e:((jZ (bD (fJ (eA s (n:Int))))).toList==(jZ (List.take (Sz ((SA (bD (fJ (eA s (n:Int)))):Nat):Int)) (bD b))).toList) with
      |false=>rfl
      |true=>exact absurd (MX.2 ⟨hl,e⟩) hp
     exact go (t2:= []) (s2:= []) (H0 b _ s n (by omega) (by omega) v0 v1 hh hy RU hl hs) hf
    ·exact go (t2:= []) (s2:= []) (Gw b _ s n (by omega) (by omega) v0 v1 hh hy RU (by omega)) hf
theorem yM (b:List Int) (hb:fO b) (s:av) (v0:0≤s.code) (v1:s.code≤255) (hh:s.high=0∨s.high=8) (hf:eO b s gV=none):
  cO Tryz.prog 9 (.loop (cu Tryz.f141 0)) (gT 0) (gS (a8 Tryz.f81 0) (a7 Tryz.f81 0) b s) (.exit 0) gU (G8 (a8 Tryz.f81 0) (a7 Tryz.f81 0) none):=by
 have h:=ki b hb s v0 v1 hh 32 0 rfl
 rw [Tw,hf] at h
 exact cO.ft (Nat.le_refl _) h
theorem yL (b:List Int) (hb:fO b) (s:av) (v0:0≤s.code) (v1:s.code≤255) (hh:s.high=0∨s.high=8) (x:XS) (hf:eO b s gV=some x):
  cO Tryz.prog 9 (.loop (cu Tryz.f141 0)) (gT 0) (gS (a8 Tryz.f81 0) (a7 Tryz.f81 0) b s) .ret gU (G8 (a8 Tryz.f81 0) (a7 Tryz.f81 0) (some x)):=by
 have h:=ki b hb s v0 v1 hh 32 0 rfl
 rw [Tw,hf] at h
 exact cO.ft (Nat.le_refl _) h
theorem Eb (b:List Int) (s:av) (hp:aF Tryz.prog 142 [.aj .no 1 (bD b)] (.aC [da s,.bool false])):aF Tryz.prog 81 ([.aj .no 1 (bD b)]) (.aC [xD 0 0 0 0 0 0 0 0,.int .i64 0,.int .i64 30]):=by
 exact (aF.ab (d:= .aC [(xD 0 0 0 0 0 0 0 0),.int .i64 0,.int .i64 30]) mixed Tryz.func81 (by kernel_rfl) [.inl,.xJ [1,2,3,4],.ret _ _ _ hp,tT] (by kernel_rfl)).to (by simp [wk,ax,kI])
theorem Ea (b:List Int) (hb:fO b) (s:av) (v0:0≤s.code) (v1:s.code≤255) (hh:s.high=0∨s.high=8) (hp:aF Tryz.prog 142 [.aj .no 1 (bD b)] (.aC [da s,.bool true])) (hf:eO b s gV=none):aF Tryz.prog 81 ([.aj .no 1 (bD b)]) (.aC [xD 0 0 0 0 0 0 0 0,.int .i64 0,.int .i64 30]):=by
 have c0:= @yM (b) hb (s) v0 v1 hh hf
 exact (aF.ab (d:= .aC [(xD 0 0 0 0 0 0 0 0),.int .i64 0,.int .i64 30]) mixed Tryz.func81 (by kernel_rfl) [.inl,.xJ [1,2,3,4],.ret _ _ _ hp,tF,.inl,.head ⟨[0,1,3,15,16],[0,1,2,3,4,5,7],[]⟩ _ _ _ _ _ _ _ c0] (by kernel_rfl)).to (by simp [wk,ax,kI])
theorem D9 (b:List Int) (hb:fO b) (s:av) (v0:0≤s.code) (v1:s.code≤255) (hh:s.high=0∨s.high=8) (hp:aF Tryz.prog 142 [.aj .no 1 (bD b)] (.aC [da s,.bool true])) (x:XS) (hf:eO b s gV=some x):aF Tryz.prog 81 ([.aj .no 1 (bD b)]) (.aC [kI x,.int .i64 (fJ x).length,.int .i64 0]):=by
 have c0:= @yL (b) hb (s) v0 v1 hh _ hf
 exact (aF.ab (d:= .aC [(xD (XS.op x) (XS.w x) (XS.dst x) (XS.src x) (XS.base x) (XS.aa x) (XS.ai x) (XS.cc x)),.int .i64 (↑(SA (fJ x)):Int),.int .i64 0]) mixed Tryz.func81 (by kernel_rfl) [.inl,.xJ [1,2,3,4],.ret _ _ _ hp,tF,.inl,.head ⟨[0,1,3,15,16],[0,1,2,3,4,5,7],[]⟩ _ _ _ _ _ _ _ c0] (by kernel_rfl)).to (by simp [wk,ax,kI])
theorem D8 (b:List Int) (hb:fO b):aF Tryz.prog 81 [.aj .no 1 (bD b)] (Jo (m8 b)):=by
 obtain ⟨s,hp,hs⟩:=Ee b hb
 cases e:jT b with
 |none=>
  rw [e] at hp
  rw [BD e]
  obtain ⟨x,hx⟩:∃x:av,x=⟨s.w,s.dZ,0,s.r,s.m,s.aa,s.ai,s.small,s.eQ,s.fB,s.high⟩:=⟨_,rfl⟩
  exact Eb b s hp
 |some s'=>
  obtain rfl:=hs s' e
  rw [e] at hp
  obtain ⟨v0,v1,hh⟩:=BW hb e
  rw [← yP e]
  cases hf:eO b s gV with
  |none=>exact Ea b hb s v0 v1 hh hp hf
  |some x=>exact D9 b hb s v0 v1 hh hp x hf
theorem zD:aF Tryz.prog 22 ([.aj .no 8 [xD 1 32 0 0 0 0 5 0,xD 30 0 0 0 0 0 0 0]]) (.aj (.fresh 1) 1 [.int .u8 184,.int .u8 5,.int .u8 0,.int .u8 0,.int .u8 0,.int .u8 195]):=by
 have c0:= @iP ((1:Int)) ((32:Int)) ((0:Int)) ((0:Int)) ((0:Int)) ((0:Int)) ((5:Int)) ((0:Int)) (by first|rfl|decide)
 have c1:= @iP ((30:Int)) ((0:Int)) ((0:Int)) ((0:Int)) ((0:Int)) ((0:Int)) ((0:Int)) ((0:Int)) (by first|rfl|decide)
 exact (aF.ab (d:= .aj (.fresh 1) 1 [.int .u8 184,.int .u8 5,.int .u8 0,.int .u8 0,.int .u8 0,.int .u8 195]) mixed Tryz.func22 (by kernel_rfl) [.go 64,tT,tT,.get ([(xD 1 32 0 0 0 0 5 0),(xD 30 0 0 0 0 0 0 0)]) 0 ((xD 1 32 0 0 0 0 5 0)) rfl,.ret _ _ _ c0,tF,.len ((5:Nat)) ((2147483648:Nat)) (by first|decide|omega|(simp;omega)),tT,tT,.get ([(xD 1 32 0 0 0 0 5 0),(xD 30 0 0 0 0 0 0 0)]) 1 ((xD 30 0 0 0 0 0 0 0)) rfl,.ret _ _ _ c1,tF,.len ((6:Nat)) ((2147483648:Nat)) (by first|decide|omega|(simp;omega)),tF] (by kernel_rfl)).to (by simp [wk,ax,aO])
end Go.Proofs.YtbfpahigdpigpaaGreat
namespace Go.Ev
open Go Go.RowKit Go.ChangeShapes Go.WideShapes
theorem mm {H:Type} {enc:TypeId×Value→H} {P:Program} (hl:laidOutB P=true) {W W':World} (hb:Below W.heap.size W W'):∀ {ts:List TypeId} {vs:List Value} {ds:List (DataW H)} {ps:List MemPlace},
  (∀t∈ts,P.readableRec t=true∧t<P.types.size)→DataW.TrodAll enc P W 0 (fun _=>true) true ts vs ds ps→(∀x∈ps,x.block<W.heap.size)→DataW.TrodAll enc P W' 0 (fun b=>decide (b<W.heap.size)) true ts vs ds ps
 | [],vs,ds,ps,_,h,_=>by
  obtain ⟨rfl,rfl,rfl⟩:=trodAll_nil h
  rfl
 |t::ts,vs,ds,ps,hr,h,hp=>by
  obtain ⟨v,vs',d,Rk,p,q,rfl,rfl,rfl,h1,h2⟩:=trodAll_cons h
  have Sj:=hr t (by simp)
  exact ⟨p,q,Below.trod hl Sj.1 Sj.2 h1 hb (fun x hx=>hp x (by simp [hx])),mm hl hb (fun t ht=>hr t (by simp [ht])) h2 (fun x hx=>hp x (by simp [hx])),rfl⟩
theorem kA {H:Type} {enc:TypeId×Value→H} {P:Program} {W:World} {b:Nat} {sp:Nat→Bool} {hd:Bool} :∀ {ts:List TypeId} {vs:List Value} {ds:List (DataW H)} {ps:List MemPlace},DataW.TrodAll enc P W b sp hd ts vs ds ps→vs.length=ts.length∧ds.length=ts.length
 | [],vs,ds,ps,h=>by
  obtain ⟨rfl,rfl,rfl⟩:=trodAll_nil h
  exact ⟨rfl,rfl⟩
 |t::ts,vs,ds,ps,h=>by
  obtain ⟨v,vs',d,Rk,p,q,rfl,rfl,rfl,h1,h2⟩:=trodAll_cons h
  obtain ⟨k1,k2⟩:=kA h2
  exact ⟨by simp [k1],by simp [k2]⟩
theorem yH {a:Assume} {H:Type} {enc:TypeId×Value→H} {C:Checked} {os:Os} {f:FuncId} {fn:Func} {s:ChangeSpec} {conds:List PathCond} {fresh handsOn:Bool} {tb:TypeId}
  (own:ownKnob C.prog.godebug=none) (started:os.Started) (Qe:C.prog.inits.idxOf? f=none) (hfn:C.prog.funcs[f]? =some fn) (hl:laidOutB C.prog=true) (Pm:s.vars= [])
  (Pz:∀t∈fn.params.toList,C.prog.readableRec t=true∧t<C.prog.types.size) (R7:fn.resultTypes= #[tb]) (htb:C.prog.underlying tb=some .bool)
  (QE:∀ds:List (DataW H),ds.length=fn.params.toList.length→(s.fn H ds).results= [.lit (.bool true)]∧(s.fn H ds).args=ds∧(s.fn H ds).vars= [])
  (witness:∃(w:World) (tape:Tape) (i:Input),w.os=os∧(w.forCall tape i).Shaped C.prog∧i.vars= []∧Input.okWide C.prog (w.forCall tape i) .any w.heap.size f i∧
   s.pre6 enc C.prog fn conds false (w.forCall tape i).memory i.args∧a.holds C.prog (lone (Frame.enter C.prog f i.args .normal) [] (w.forCall tape i)))
  (KD:∀(W:World) (base:Nat) (args:Array Value) (ds:List (DataW H)) (ps:List MemPlace),(∀(j:Nat) t v,fn.params[j]? =some t→args[j]? =some v→Value.okWide C.prog W .any base t v)→
   args.toList.length=fn.params.toList.length→DataW.TrodAll enc C.prog W 0 (fun _=>true) true fn.params.toList args.toList ds ps→(DataW.weightsEach C.prog fn.params.toList ds).all (· ≤reachBytes)=true→
   Calls C.prog f args W fun e W'=>e= .returned (.bool true)∧Below W.heap.size W W'):
  ReturnsInHanded a C os f .any (s.pre6 enc C.prog fn conds false) (s.post enc C.prog fn false fresh handsOn false):=by
 refine returnsInHanded_of_change_sized own started Qe hfn witness ?_
 intro W base args ds gs before Mh hW _ hz _
 have Sq:=hW
 obtain ⟨p,q,hA,hV,rfl,P3,hnd⟩:=hW
 rw [Pm] at hV
 obtain ⟨rfl,rfl⟩:=trodVars_none hV
 obtain ⟨l1,l2⟩:=kA hA
 have hz':(DataW.weightsEach C.prog fn.params.toList ds).all (· ≤reachBytes)=true:=by
  have e:s.plain.varTypes C.prog= []:=by simp [ChangeSpec.plain,DataSpec.varTypes,Pm]
  rw [e,T0,T0] at hz
  exact hz
 refine (KD W base args ds p Mh l1 hA hz').mono fun e W' ⟨he,hb⟩=> ?_
 subst he
 refine ⟨_,rfl,ds,[],p++ [],[],p,[],Sq,?_⟩
 rw [T0]
 obtain ⟨s1,s2,s3⟩:=QE ds l2
 rw [s1,s2,s3,R7,Pm]
 refine ⟨?_,mm hl hb Pz hA (fun x hx=>by simpa using Sq.lt x (by simpa using hx)),rfl,Below.frame hb _,fun h=>nomatch h⟩
 exact trodAll_mk1 (shut_bool htb true)
def nk:List LK→List D→Prop
  | [],ds=>ds= []
  | .bool::ks,ds=> ∃(b:Bool) (r:List D),ds= .bool b::r∧nk ks r
  | .int k::ks,ds=> ∃(n:Int) (r:List D),ds= .int k n::r∧k.has n∧nk ks r
  | .str::ks,ds=> ∃(b:ByteArray) (r:List D),ds= .str b::r∧(b.size:Int)≤T8.i64.max∧nk ks r
def qM (P:Program) (t:TypeId):Option LK:=match P.underlying t with
  |some .bool=>some .bool
  |some (.int k)=>some (.int k)
  |some .string=>some .str
  |_=>none
def G0 (P:Program):List TypeId→Option (List LK)
  | []=>some []
  |t::r=>match qM P t,G0 P r with
    |some k,some l=>some (k::l)
    |_,_=>none
theorem Dj {P:Program} {w:World} {r:Reach} {b:Nat} {t:TypeId} {v:Value} {k:LK} (hk:qM P t=some k) (h:Cell.okWide P w r b t v):∃d:D,sD v=some d∧∀ks ds,nk ks ds→nk (k::ks) (d::ds):=by
 unfold qM at hk
 unfold Cell.okWide Cell.ok at h
 split at hk
 ·rename_i hu
  obtain rfl:=Option.some.inj hk
  rw [hu] at h
  cases v<;>simp at h
  exact ⟨_,rfl,fun ks ds q=>⟨_,_,rfl,q⟩⟩
 ·rename_i k' hu
  obtain rfl:=Option.some.inj hk
  rw [hu] at h
  cases v<;>simp at h
  obtain ⟨rfl,h⟩:=h
  exact ⟨_,rfl,fun ks ds q=>⟨_,_,rfl,h,q⟩⟩
 ·rename_i hu
  obtain rfl:=Option.some.inj hk
  rw [hu] at h
  cases v<;>simp at h
  exact ⟨_,rfl,fun ks ds q=>⟨_,_,rfl,h,q⟩⟩
 ·cases hk
theorem Ei {P:Program} {w:World} {r:Reach} {b:Nat} {t:TypeId} {v:Value} {k:LK} {M:MM} (hk:qM P t=some k) (h:Value.okWide P w r b t v):∃d:D,nk [k] [d]∧bk M d v:=by
 have hc:Cell.okWide P w r b t v:=by
  unfold Value.okWide at h
  unfold qM at hk
  split at hk
  ·rename_i hu;rw [hu] at h;exact h
  ·rename_i hu;rw [hu] at h;exact h
  ·rename_i hu;rw [hu] at h;exact h
  ·cases hk
 obtain ⟨d,h1,h2⟩:=Dj hk hc
 exact ⟨d,h2 [] [] rfl,pC h1⟩
def xI (w:World):Nat→Nat→Option Value:=fun b o=>w.cell? ⟨b,o,none⟩
theorem aF.KD {P:Program} {f:FuncId} {args:List D} (h:aF P f args (.bool true)) {W:World} {vs:Array Value} (hr:bS (eY (xI W)) args vs):Calls P f vs W fun e W'=>e= .returned (.bool true)∧Below W.heap.size W W':=by
 refine Calls.mono (h.run W (xI W) vs (fun b o v k=>k) hr) ?_
 rintro e W' ⟨v,C',rfl,hext,LM,_⟩
 cases LM
 exact ⟨rfl,hext.below⟩
end Go.Ev
