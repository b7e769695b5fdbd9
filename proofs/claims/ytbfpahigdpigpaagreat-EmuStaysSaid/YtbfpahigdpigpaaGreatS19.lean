import Derived.Test.YtbfpahigdpigpaaGreatS05
import Derived.Test.YtbfpahigdpigpaaGreatS06
import Derived.Test.YtbfpahigdpigpaaGreatS07
import Derived.Test.YtbfpahigdpigpaaGreatS11
import Derived.Test.YtbfpahigdpigpaaGreatS17
import Derived.Test.YtbfpahigdpigpaaGreatS18
open BitVec renaming ofInt→Xf
open List renaming replicate→Xg,length→Xj,getD_eq_getElem?_getD→Xr,cons_append→Xs,length_append→Xu,length_cons→Xx,length_nil→XE,nil_append→XJ,drop_zero→Yn
open Go.Proofs.Tryz renaming prog→Xh,f21→Yh
open Int renaming toNat→Xi,not_lt→Xk,lt_add_one_of_le→Xl
open Bool renaming and_eq_true→Xp,or_eq_true→XM,not_eq_true'→X8,not_eq_false'→Yk,or_false→YF
open Go renaming IntKind→YO
/- Contracts and plain laws that a statement's proof leans on (texts merged:XQ5,XQ6,XQ6A,XQ7,XQ7A,XQ1G,XQ1H,XQ2G,XQ2H,XQ8,MdRe,MdP4,MdRf). -/
set_option linter.unusedVariables false
set_option linter.unusedSimpArgs false
set_option maxRecDepth 100000
set_option maxHeartbeats 8000000
namespace Go.Proofs.YtbfpahigdpigpaaGreat
open Go Go.Ev
theorem Gk (X0 X2:List D) (b:List Int) (hb:du b) (hl:b.length≤1000) (k:Nat) (bad w:Bool) (rr mm:Int) (n0:0≤aO b k) (n1:aO b k≤255) (W:Int) (h:aO b k=175):ak Xh 39 ([.ptr false 1 0,xD (-1) W 0 0 0 0 0 0]) ([au X0,bR b ((k:Int)) bad w rr mm,au X2]) (xD 16 W (dz (aO b (aP b k)) rr) (dw (aO b (aP b k)) mm) 0 0 0 0) ([au X0,bR b ((aP b (aP b k):Nat)) (gD b (aP b k) (cC b k bad)) w rr mm,au X2,aA,aA]):=ak.ai (aV:= [0,1,2]) mixed [.aD _ _ _ _ _ (@cf X0 X2 ((xC (-1) W 0 0 0 0 0 0)) (zX) b hb hl k bad w rr mm),tC (cP 175 true (by ((try simp only [aK,cY] at*);(try unfold cV at*);omega):aO b k=175)),.aD _ _ _ _ _ (@CY X0 X2 ((xC 16 W 0 0 0 0 0 0)) (zX) b hb hl (aP b k) (cC b k bad) w rr mm)] (by kernel_rfl)
theorem BL (X0 X2:List D) (b:List Int) (hb:du b) (hl:b.length≤1000) (k:Nat) (bad w:Bool) (rr mm:Int) (n0:0≤aO b k) (n1:aO b k≤255) (W:Int) (h:aO b k=5):ak Xh 39 ([.ptr false 1 0,xD (-1) W 0 0 0 0 0 0]) ([au X0,bR b ((k:Int)) bad w rr mm,au X2]) (xD 31 0 0 0 0 0 0 0) ([au X0,bR b (((aP b k):Nat)) ((cC b k bad)) w rr mm,au X2,aA,aA]):=ak.ai (aV:= [0,1,2]) mixed [.aD _ _ _ _ _ (@cf X0 X2 ((xC (-1) W 0 0 0 0 0 0)) (zX) b hb hl k bad w rr mm),tC (by ((try simp only [aK,cY] at*);(try unfold cV at*);omega):(aO b k==175)=false),tC (cP 5 true (by ((try simp only [aK,cY] at*);(try unfold cV at*);omega):aO b k=5))] (by kernel_rfl)
theorem BM (X0 X2:List D) (b:List Int) (hb:du b) (hl:b.length≤1000) (k:Nat) (bad w:Bool) (rr mm:Int) (n0:0≤aO b k) (n1:aO b k≤255) (W:Int) (h:64≤aO b k) (h2:aO b k<80):ak Xh 39 ([.ptr false 1 0,xD (-1) W 0 0 0 0 0 0]) ([au X0,bR b ((k:Int)) bad w rr mm,au X2]) (xD 25 W (dz (aO b (aP b k)) rr) (dw (aO b (aP b k)) mm) 0 0 0 (YO.i8.wrap (YO.i64.wrap (aO b k - 64)))) ([au X0,bR b ((aP b (aP b k):Nat)) (gD b (aP b k) (cC b k bad)) w rr mm,au X2,aA,aA]):=ak.ai (aV:= [0,1,2]) mixed [.aD _ _ _ _ _ (@cf X0 X2 ((xC (-1) W 0 0 0 0 0 0)) (zX) b hb hl k bad w rr mm),tC (oz 175 (bT h2)),tC (ta 5 (bg (Xk.2 h))),tC (eT (bO 64 (bg (Xk.2 h)))),tC (eT (bO 64 (bg (Xk.2 h)))),tC (bO 64 (bg (Xk.2 h))),tC (bT h2),.aD _ _ _ _ _ (@CY X0 X2 ((xC 25 W 0 0 0 0 0 (YO.wrap YO.i8 (YO.i64.wrap (aO b k - 64))))) (zX) b hb hl (aP b k) (cC b k bad) w rr mm)] (by kernel_rfl)
theorem Gm (X0 X2:List D) (b:List Int) (hb:du b) (hl:b.length≤1000) (k:Nat) (bad w:Bool) (rr mm:Int) (n0:0≤aO b k) (n1:aO b k≤255) (W:Int) (h:128≤aO b k) (h2:aO b k<144):ak Xh 39 ([.ptr false 1 0,xD (-1) W 0 0 0 0 0 0]) ([au X0,bR b ((k:Int)) bad w rr mm,au X2]) (xD 29 W 0 0 0 0 (eJ b (aP b k)) (YO.i8.wrap (YO.i64.wrap (aO b k - 128)))) ([au X0,bR b ((dG b (aP b k):Nat)) (dL b (aP b k) (cC b k bad)) w rr mm,au X2,aA,aA,aA]):=ak.ai (aV:= [0,1,2]) mixed [.aD _ _ _ _ _ (@cf X0 X2 ((xC (-1) W 0 0 0 0 0 0)) (zX) b hb hl k bad w rr mm),tC (oz 175 (bT h2)),tC (ta 5 (bg (Xk.2 h))),tC (eT (bO 64 (lR 64 (bg (Xk.2 h))))),tC (eT (bO 64 (lR 64 (bg (Xk.2 h))))),tC (bO 64 (lR 64 (bg (Xk.2 h)))),tC (lR 80 (bg (Xk.2 h))),tC (eT (bO 128 (bg (Xk.2 h)))),tC (eT (bO 128 (bg (Xk.2 h)))),tC (bO 128 (bg (Xk.2 h))),tC (bT h2),.aD _ _ _ _ _ (@dI X0 X2 ((xC 29 W 0 0 0 0 0 (YO.wrap YO.i8 (YO.i64.wrap (aO b k - 128))))) (zX) b hb hl (aP b k) (cC b k bad) w rr mm)] (by kernel_rfl)
theorem Jy (X0 X2:List D) (b:List Int) (hb:du b) (hl:b.length≤1000) (k:Nat) (bad w:Bool) (rr mm:Int) (n0:0≤aO b k) (n1:aO b k≤255) (W:Int) (h:aO b k=182):ak Xh 39 ([.ptr false 1 0,xD (-1) W 0 0 0 0 0 0]) ([au X0,bR b ((k:Int)) bad w rr mm,au X2]) (xD 26 8 (dz (aO b (aP b k)) rr) 0 (dw (aO b (aP b k)) mm) (eJ b (dW b (aP b k))) 0 0) ([au X0,au [aZ 1 (bD b),ao ((dG b (dW b (aP b k)):Nat)),ax (dL b (dW b (aP b k)) (jO b (aP b k) (cC b k bad))),ax w,aj rr,aj mm],au X2,aA,aA,aA]):=ak.ai (aV:= [0,1,2]) mixed ([.aD _ _ _ _ _ (@cf X0 X2 ((xC (-1) W 0 0 0 0 0 0)) (zX) b hb hl k bad w rr mm),tC (by ((try simp only [aK,cY] at*);(try unfold cV at*);omega):(aO b k==175)=false),tC (by ((try simp only [aK,cY] at*);(try unfold cV at*);omega):(aO b k==5)=false),tC (eT (bO 64 (by ((try simp only [aK,cY] at*);(try unfold cV at*);omega):(decide (aO b k<64))=false))),tC (eT (bO 64 (by ((try simp only [aK,cY] at*);(try unfold cV at*);omega):(decide (aO b k<64))=false))),tC (bO 64 (by ((try simp only [aK,cY] at*);(try unfold cV at*);omega):(decide (aO b k<64))=false)),tC (by ((try simp only [aK,cY] at*);(try unfold cV at*);omega):(decide (aO b k<80))=false),tC (eT (bO 128 (by ((try simp only [aK,cY] at*);(try unfold cV at*);omega):(decide (aO b k<128))=false))),tC (eT (bO 128 (by ((try simp only [aK,cY] at*);(try unfold cV at*);omega):(decide (aO b k<128))=false))),tC (bO 128 (by ((try simp only [aK,cY] at*);(try unfold cV at*);omega):(decide (aO b k<128))=false)),tC (by ((try simp only [aK,cY] at*);(try unfold cV at*);omega):(decide (aO b k<144))=false),tC (eF (cP 182 true (by ((try simp only [aK,cY] at*);(try unfold cV at*);omega):aO b k=182))),tC (eF (cP 182 true (by ((try simp only [aK,cY] at*);(try unfold cV at*);omega):aO b k=182))),tC (cP 182 true (by ((try simp only [aK,cY] at*);(try unfold cV at*);omega):aO b k=182)),tT,tC (cP 183 false (by ((try simp only [aK,cY] at*);(try unfold cV at*);omega):aO b k=182))]++ [.aD _ _ _ _ _ (@C0 X0 X2 ((xC 26 8 0 0 0 0 0 0)) (zX) b hb hl (aP b k) (cC b k bad) w rr mm)]) (by kernel_rfl)
theorem Gl (X0 X2:List D) (b:List Int) (hb:du b) (hl:b.length≤1000) (k:Nat) (bad w:Bool) (rr mm:Int) (n0:0≤aO b k) (n1:aO b k≤255) (W:Int) (h:aO b k=183):ak Xh 39 ([.ptr false 1 0,xD (-1) W 0 0 0 0 0 0]) ([au X0,bR b ((k:Int)) bad w rr mm,au X2]) (xD 26 16 (dz (aO b (aP b k)) rr) 0 (dw (aO b (aP b k)) mm) (eJ b (dW b (aP b k))) 0 0) ([au X0,au [aZ 1 (bD b),ao ((dG b (dW b (aP b k)):Nat)),ax (dL b (dW b (aP b k)) (jO b (aP b k) (cC b k bad))),ax w,aj rr,aj mm],au X2,aA,aA,aA]):=ak.ai (aV:= [0,1,2]) mixed ([.aD _ _ _ _ _ (@cf X0 X2 ((xC (-1) W 0 0 0 0 0 0)) (zX) b hb hl k bad w rr mm),tC (by ((try simp only [aK,cY] at*);(try unfold cV at*);omega):(aO b k==175)=false),tC (by ((try simp only [aK,cY] at*);(try unfold cV at*);omega):(aO b k==5)=false),tC (eT (bO 64 (by ((try simp only [aK,cY] at*);(try unfold cV at*);omega):(decide (aO b k<64))=false))),tC (eT (bO 64 (by ((try simp only [aK,cY] at*);(try unfold cV at*);omega):(decide (aO b k<64))=false))),tC (bO 64 (by ((try simp only [aK,cY] at*);(try unfold cV at*);omega):(decide (aO b k<64))=false)),tC (by ((try simp only [aK,cY] at*);(try unfold cV at*);omega):(decide (aO b k<80))=false),tC (eT (bO 128 (by ((try simp only [aK,cY] at*);(try unfold cV at*);omega):(decide (aO b k<128))=false))),tC (eT (bO 128 (by ((try simp only [aK,cY] at*);(try unfold cV at*);omega):(decide (aO b k<128))=false))),tC (bO 128 (by ((try simp only [aK,cY] at*);(try unfold cV at*);omega):(decide (aO b k<128))=false)),tC (by ((try simp only [aK,cY] at*);(try unfold cV at*);omega):(decide (aO b k<144))=false),tC (eF (by ((try simp only [aK,cY] at*);(try unfold cV at*);omega):(aO b k==182)=false)),tC (eF (by ((try simp only [aK,cY] at*);(try unfold cV at*);omega):(aO b k==182)=false)),tC (by ((try simp only [aK,cY] at*);(try unfold cV at*);omega):(aO b k==182)=false),tC (cP 183 true (by ((try simp only [aK,cY] at*);(try unfold cV at*);omega):aO b k=183)),tC (cP 183 true (by ((try simp only [aK,cY] at*);(try unfold cV at*);omega):aO b k=183))]++ [.aD _ _ _ _ _ (@C0 X0 X2 ((xC 26 16 0 0 0 0 0 0)) (zX) b hb hl (aP b k) (cC b k bad) w rr mm)]) (by kernel_rfl)
theorem Jx (X0 X2:List D) (b:List Int) (hb:du b) (hl:b.length≤1000) (k:Nat) (bad w:Bool) (rr mm:Int) (n0:0≤aO b k) (n1:aO b k≤255) (W:Int) (q0:aO b k≠175) (q1:aO b k≠5) (q2:aO b k≠182) (q3:aO b k≠183) (h:aO b k<64∨80≤aO b k) (h2:aO b k<128∨144≤aO b k):ak Xh 39 ([.ptr false 1 0,xD (-1) W 0 0 0 0 0 0]) ([au X0,bR b ((k:Int)) bad w rr mm,au X2]) (xD (-1) W 0 0 0 0 0 0) ([au X0,bR b (((aP b k):Nat)) ((cC b k bad)) w rr mm,au X2,aA,aA]):=by
 rcases cQ (decide (aO b k<64)) with h0|h0
 ·exact ak.ai (aV:= [0,1,2]) mixed [.aD _ _ _ _ _ (@cf X0 X2 ((xC (-1) W 0 0 0 0 0 0)) (zX) b hb hl k bad w rr mm),tC (by ((try simp only [aK,cY] at*);(try unfold cV at*);omega):(aO b k==175)=false),tC (by ((try simp only [aK,cY] at*);(try unfold cV at*);omega):(aO b k==5)=false),tC (eT (bO 64 h0)),tC (eT (bO 64 h0)),tC (bO 64 h0),tF,tC (eT (bO 128 (sG 128 h0))),tC (eT (bO 128 (sG 128 h0))),tC (bO 128 (sG 128 h0)),tF,tC (eF (oz 182 h0)),tC (eF (oz 182 h0)),tC (oz 182 h0),tC (oz 183 h0)] (by kernel_rfl)
 rcases cQ (decide (aO b k<128)) with h1|h1
 ·exact ak.ai (aV:= [0,1,2]) mixed [.aD _ _ _ _ _ (@cf X0 X2 ((xC (-1) W 0 0 0 0 0 0)) (zX) b hb hl k bad w rr mm),tC (by ((try simp only [aK,cY] at*);(try unfold cV at*);omega):(aO b k==175)=false),tC (by ((try simp only [aK,cY] at*);(try unfold cV at*);omega):(aO b k==5)=false),tC (eT (bO 64 h0)),tC (eT (bO 64 h0)),tC (bO 64 h0),tC (by ((try simp only [aK,cY] at*);(try unfold cV at*);omega):(decide (aO b k<80))=false),tC (eT (bO 128 h1)),tC (eT (bO 128 h1)),tC (bO 128 h1),tF,tC (eF (oz 182 h1)),tC (eF (oz 182 h1)),tC (oz 182 h1),tC (oz 183 h1)] (by kernel_rfl)
 exact ak.ai (aV:= [0,1,2]) mixed [.aD _ _ _ _ _ (@cf X0 X2 ((xC (-1) W 0 0 0 0 0 0)) (zX) b hb hl k bad w rr mm),tC (by ((try simp only [aK,cY] at*);(try unfold cV at*);omega):(aO b k==175)=false),tC (by ((try simp only [aK,cY] at*);(try unfold cV at*);omega):(aO b k==5)=false),tC (eT (bO 64 h0)),tC (eT (bO 64 h0)),tC (bO 64 h0),tC (by ((try simp only [aK,cY] at*);(try unfold cV at*);omega):(decide (aO b k<80))=false),tC (eT (bO 128 h1)),tC (eT (bO 128 h1)),tC (bO 128 h1),tC (by ((try simp only [aK,cY] at*);(try unfold cV at*);omega):(decide (aO b k<144))=false),tC (eF (by ((try simp only [aK,cY] at*);(try unfold cV at*);omega):(aO b k==182)=false)),tC (eF (by ((try simp only [aK,cY] at*);(try unfold cV at*);omega):(aO b k==182)=false)),tC (by ((try simp only [aK,cY] at*);(try unfold cV at*);omega):(aO b k==182)=false),tC (by ((try simp only [aK,cY] at*);(try unfold cV at*);omega):(aO b k==183)=false)] (by kernel_rfl)
theorem DE (X0 X2:List D) (b:List Int) (hb:du b) (hl:b.length≤1000) (k:Nat) (bad w:Bool) (rr mm:Int) (W n:Int) (n0:0≤n) (n1:n≤255) (h:112≤n) (h2:n<128):ak Xh 40 ([.ptr false 1 0,xD (-1) W 0 0 0 0 0 0,ao n]) ([au X0,bR b ((k:Int)) bad w rr mm,au X2]) (xD 29 8 0 0 0 0 (x8 b k) (YO.i8.wrap (YO.i64.wrap (n - 112)))) ([au X0,bR b ((aP b k:Nat)) (cC b k bad) w rr mm,au X2,aA,aA,aA]):=ak.ai (aV:= [0,1,2]) mixed [tC (eT (bO 112 (bg (Xk.2 h)))),tC (eT (bO 112 (bg (Xk.2 h)))),tC (bO 112 (bg (Xk.2 h))),tC (bT h2),.aD _ _ _ _ _ (@yX X0 X2 ((xC 29 8 0 0 0 0 0 (YO.wrap YO.i8 (YO.i64.wrap (n - 112))))) (zX) b hb hl k bad w rr mm)] (by kernel_rfl)
theorem DD (X0 X2:List D) (b:List Int) (hb:du b) (hl:b.length≤1000) (k:Nat) (bad w:Bool) (rr mm:Int) (W n:Int) (n0:0≤n) (n1:n≤255) (h:184≤n) (h2:n<192):ak Xh 40 ([.ptr false 1 0,xD (-1) W 0 0 0 0 0 0,ao n]) ([au X0,bR b ((k:Int)) bad w rr mm,au X2]) (xD 1 W (YO.i8.wrap (YO.i8.wrap (YO.i64.wrap (n - 184))+YO.i8.wrap (8*mm))) 0 0 0 (eJ b k) 0) ([au X0,bR b ((dG b k:Nat)) (dL b k bad) w rr mm,au X2,aA,aA,aA]):=ak.ai (aV:= [0,1,2]) mixed [tC (eT (bO 112 (lR 112 (bg (Xk.2 h))))),tC (eT (bO 112 (lR 112 (bg (Xk.2 h))))),tC (bO 112 (lR 112 (bg (Xk.2 h)))),tC (lR 128 (bg (Xk.2 h))),tC (eT (bO 184 (bg (Xk.2 h)))),tC (eT (bO 184 (bg (Xk.2 h)))),tC (bO 184 (bg (Xk.2 h))),tC (bT h2),.aD _ _ _ _ _ (@dI X0 X2 ((xC 1 W (YO.wrap YO.i8 (YO.wrap YO.i8 (YO.i64.wrap (n - 184))+YO.wrap YO.i8 (8*mm))) 0 0 0 0 0)) (zX) b hb hl k bad w rr mm)] (by kernel_rfl)
theorem Hp (X0 X2:List D) (b:List Int) (hb:du b) (hl:b.length≤1000) (k:Nat) (bad w:Bool) (rr mm:Int) (W n:Int) (n0:0≤n) (n1:n≤255) (h:n<112∨128≤n) (h2:n<184∨192≤n):ak Xh 40 ([.ptr false 1 0,xD (-1) W 0 0 0 0 0 0,ao n]) ([au X0,bR b ((k:Int)) bad w rr mm,au X2]) (xD (-1) W 0 0 0 0 0 0) ([au X0,bR b ((k:Nat)) bad w rr mm,au X2,aA,aA]):=by
 rcases cQ (decide (n<112)) with h0|h0
 ·exact ak.ai (aV:= [0,1,2]) mixed [tC (eT (bO 112 h0)),tC (eT (bO 112 h0)),tC (bO 112 h0),tF,tC (eT (bO 184 (sG 184 h0))),tC (eT (bO 184 (sG 184 h0))),tC (bO 184 (sG 184 h0)),tF] (by kernel_rfl)
 rcases cQ (decide (n<184)) with h1|h1
 ·exact ak.ai (aV:= [0,1,2]) mixed [tC (eT (bO 112 h0)),tC (eT (bO 112 h0)),tC (bO 112 h0),tC (by ((try simp only [aK,cY] at*);(try unfold cV at*);omega):(decide (n<128))=false),tC (eT (bO 184 h1)),tC (eT (bO 184 h1)),tC (bO 184 h1),tF] (by kernel_rfl)
 exact ak.ai (aV:= [0,1,2]) mixed [tC (eT (bO 112 h0)),tC (eT (bO 112 h0)),tC (bO 112 h0),tC (by ((try simp only [aK,cY] at*);(try unfold cV at*);omega):(decide (n<128))=false),tC (eT (bO 184 h1)),tC (eT (bO 184 h1)),tC (bO 184 h1),tC (by ((try simp only [aK,cY] at*);(try unfold cV at*);omega):(decide (n<192))=false)] (by kernel_rfl)
theorem gE (op:Int) (o0:0≤op) (o1:op≤31):aY Xh 35 ([aj op]) (av (xp op)):=by
 by_cases h0:op=0
 ·subst h0
  exact (qm (d:= .int .u8 137) [tT]).to (by simp only [wk,D.int.injEq,ev];decide)
 let E1:EL:= [tC (aH h0)]
 by_cases h1:op=2
 ·subst h1
  exact (qm (d:= .int .u8 1) (E1++ [tT])).to (by clear E1;simp only [wk,D.int.injEq,ev];decide)
 let E2:EL:=E1++ [tC (aH h1)]
 by_cases h2:op=3
 ·subst h2
  exact (qm (d:= .int .u8 9) (E2++ [tT])).to (by clear E1 E2;simp only [wk,D.int.injEq,ev];decide)
 let E3:EL:=E2++ [tC (aH h2)]
 by_cases h3:op=4
 ·subst h3
  exact (qm (d:= .int .u8 33) (E3++ [tT])).to (by clear E1 E2 E3;simp only [wk,D.int.injEq,ev];decide)
 let E4:EL:=E3++ [tC (aH h3)]
 by_cases h4:op=5
 ·subst h4
  exact (qm (d:= .int .u8 41) (E4++ [tT])).to (by clear E1 E2 E3 E4;simp only [wk,D.int.injEq,ev];decide)
 let E5:EL:=E4++ [tC (aH h4)]
 by_cases h5:op=6
 ·subst h5
  exact (qm (d:= .int .u8 49) (E5++ [tT])).to (by clear E1 E2 E3 E4 E5;simp only [wk,D.int.injEq,ev];decide)
 let E6:EL:=E5++ [tC (aH h5)]
 by_cases h6:op=7
 ·subst h6
  exact (qm (d:= .int .u8 57) (E6++ [tT])).to (by clear E1 E2 E3 E4 E5 E6;simp only [wk,D.int.injEq,ev];decide)
 let E7:EL:=E6++ [tC (aH h6)]
 by_cases h7:op=8
 ·subst h7
  exact (qm (d:= .int .u8 133) (E7++ [tT])).to (by clear E1 E2 E3 E4 E5 E6 E7;simp only [wk,D.int.injEq,ev];decide)
 let E8:EL:=E7++ [tC (aH h7)]
 by_cases h8:op=9
 ·subst h8
  exact (qm (d:= .int .u8 0) (E8++ [tT,tT])).to (by clear E1 E2 E3 E4 E5 E6 E7 E8;simp only [wk,D.int.injEq,ev];decide)
 let E9:EL:=E8++ [tC (aH h8)]
 by_cases h9:op=15
 ·subst h9
  exact (qm (d:= .int .u8 0) (E9++ [tT])).to (by clear E1 E2 E3 E4 E5 E6 E7 E8 E9;simp only [wk,D.int.injEq,ev];decide)
 let E10:EL:=E9++ [tC (aH h9)]
 by_cases Sz:op=10
 ·subst Sz
  exact (qm (d:= .int .u8 1) (E10++ [tT])).to (by clear E1 E2 E3 E4 E5 E6 E7 E8 E9 E10;simp only [wk,D.int.injEq,ev];decide)
 let E11:EL:=E10++ [tC (aH Sz)]
 by_cases Tx:op=11
 ·subst Tx
  exact (qm (d:= .int .u8 4) (E11++ [tT,tT])).to (by clear E1 E2 E3 E4 E5 E6 E7 E8 E9 E10 E11;simp only [wk,D.int.injEq,ev];decide)
 let E12:EL:=E11++ [tC (aH Tx)]
 by_cases Uh:op=17
 ·subst Uh
  exact (qm (d:= .int .u8 4) (E12++ [tT,tT])).to (by clear E1 E2 E3 E4 E5 E6 E7 E8 E9 E10 E11 E12;simp only [wk,D.int.injEq,ev];decide)
 let E13:EL:=E12++ [tC (aH Uh)]
 by_cases h13:op=20
 ·subst h13
  exact (qm (d:= .int .u8 4) (E13++ [tT])).to (by clear E1 E2 E3 E4 E5 E6 E7 E8 E9 E10 E11 E12 E13;simp only [wk,D.int.injEq,ev];decide)
 let E14:EL:=E13++ [tC (aH h13)]
 by_cases h14:op=12
 ·subst h14
  exact (qm (d:= .int .u8 5) (E14++ [tT,tT])).to (by clear E1 E2 E3 E4 E5 E6 E7 E8 E9 E10 E11 E12 E13 E14;simp only [wk,D.int.injEq,ev];decide)
 let E15:EL:=E14++ [tC (aH h14)]
 by_cases h15:op=18
 ·subst h15
  exact (qm (d:= .int .u8 5) (E15++ [tT,tT])).to (by clear E1 E2 E3 E4 E5 E6 E7 E8 E9 E10 E11 E12 E13 E14 E15;simp only [wk,D.int.injEq,ev];decide)
 let E16:EL:=E15++ [tC (aH h15)]
 by_cases h16:op=21
 ·subst h16
  exact (qm (d:= .int .u8 5) (E16++ [tT])).to (by clear E1 E2 E3 E4 E5 E6 E7 E8 E9 E10 E11 E12 E13 E14 E15 E16;simp only [wk,D.int.injEq,ev];decide)
 let E17:EL:=E16++ [tC (aH h16)]
 by_cases h17:op=13
 ·subst h17
  exact (qm (d:= .int .u8 6) (E17++ [tT,tT])).to (by clear E1 E2 E3 E4 E5 E6 E7 E8 E9 E10 E11 E12 E13 E14 E15 E16 E17;simp only [wk,D.int.injEq,ev];decide)
 let E18:EL:=E17++ [tC (aH h17)]
 by_cases h18:op=24
 ·subst h18
  exact (qm (d:= .int .u8 6) (E18++ [tT])).to (by clear E1 E2 E3 E4 E5 E6 E7 E8 E9 E10 E11 E12 E13 E14 E15 E16 E17 E18;simp only [wk,D.int.injEq,ev];decide)
 by_cases h19:op=14
 ·subst h19
  exact (qm (d:= .int .u8 7) (E18++ [tC (aH h18),tT,tT])).to (by clear E1 E2 E3 E4 E5 E6 E7 E8 E9 E10 E11 E12 E13 E14 E15 E16 E17 E18;simp only [wk,D.int.injEq,ev];decide)
 let E19:EL:=E18++ [tC (aH h18),tC (aH h19)]
 by_cases h20:op=19
 ·subst h20
  exact (qm (d:= .int .u8 7) (E19++ [tT,tT])).to (by clear E1 E2 E3 E4 E5 E6 E7 E8 E9 E10 E11 E12 E13 E14 E15 E16 E17 E18 E19;simp only [wk,D.int.injEq,ev];decide)
 by_cases h21:op=22
 ·subst h21
  exact (qm (d:= .int .u8 7) (E19++ [tC (aH h20),tT])).to (by clear E1 E2 E3 E4 E5 E6 E7 E8 E9 E10 E11 E12 E13 E14 E15 E16 E17 E18 E19;simp only [wk,D.int.injEq,ev];decide)
 by_cases h22:op=23
 ·subst h22
  exact (qm (d:= .int .u8 3) (E19++ [tC (aH h20),tC (aH h21),tT])).to (by clear E1 E2 E3 E4 E5 E6 E7 E8 E9 E10 E11 E12 E13 E14 E15 E16 E17 E18 E19;simp only [wk,D.int.injEq,ev];decide)
 exact (qm (d:= .int .u8 0) (E19++ [tC (aH h20),tC (aH h21),tC (aH h22)])).to (by clear E1 E2 E3 E4 E5 E6 E7 E8 E9 E10 E11 E12 E13 E14 E15 E16 E17 E18 E19;simp only [wk,D.int.injEq,ev];unfold xp bq bW;(repeat split)<;>omega)
theorem Fy (n op:Int) (o0:0≤op) (o1:op≤31) (n0:0≤n) (n1:n≤7) (hc:bz op=2) (dh:op≠15) (q1:op≠1) (hn:xp op=n):aJ Xh (db Tryz.f36 0) ⟨[4],[],[]⟩ 0 ((ao 129)::(aj n)::(uu)::(uu)::(uu)::(aj op)::(un 71)) [] (Ex.ret) (un 4++(aj op)::(un 72)) ([]):=by
 have c0:= @aR op
 have c1:= @gE op o0 o1
 exact aJ.ai mixed ([tC (eB 31 (bT (Xl o1))),aw c0,tT,tT,tT,tC (eT (cP 2 true (by ((try simp only [hN] at*);omega):bz op=2))),tC (eT (cP 2 true (by ((try simp only [hN] at*);omega):bz op=2))),tC (cP 2 true (by ((try simp only [hN] at*);omega):bz op=2)),tC (eT (nt (by ((try simp only [hN] at*);omega):(op==15)=false))),tC (eT (nt (by ((try simp only [hN] at*);omega):(op==15)=false))),tC (nt (by ((try simp only [hN] at*);omega):(op==15)=false))]++Xg 4 (tC (eF (nt (by ((try simp only [hN] at*);omega):(op==1)=false))))++ [tC (nt (by ((try simp only [hN] at*);omega):(op==1)=false))]++Xg 8 tF++(bK 8 225++ [aw c1,tT,tT,tT,tT,tC (by ((try simp only [hN] at*);omega):(xp op==YO.wrap YO.u8 n)=true)])) (by kernel_rfl)
def B3 (Q3:Int) (SW:Int):Prop:= ∀(n op:Int) (o0:0≤op) (o1:op≤31) (n0:0≤n) (n1:n≤7) (hc:bz op≠Q3),aJ Xh (db Tryz.f36 0) ⟨[0,1,5],[],[]⟩ 0 ((ao SW)::(aj n)::(uu)::(uu)::(uu)::(aj op)::(un 71)) [] .norm ((ao SW)::(aj n)::(uu)::(uu)::(uu)::(aj (YO.wrap YO.i8 (op+1)))::(un 71)) ([])
theorem Lf:B3 2 129:=by
 intro n op o0 o1 n0 n1 hc
 have c0:= @aR op
 exact aJ.ai mixed (([tC (eB 31 (bT (Xl o1))),aw c0,tT,tT,tT,tC (eT (by ((try simp only [hN] at*);omega):(bz op==2)=false)),tC (eT (by ((try simp only [hN] at*);omega):(bz op==2)=false)),tC (by ((try simp only [hN] at*);omega):(bz op==2)=false)]++bK 39 278713940280)++Xg 9 tF) (by kernel_rfl)
theorem Ld (n op:Int) (o0:0≤op) (o1:op≤31) (n0:0≤n) (n1:n≤7) (hc:bz op=2) (dh:op≠15) (q1:op≠1) (hn:xp op≠n):aJ Xh (db Tryz.f36 0) ⟨[0,1,5],[],[]⟩ 0 ((ao 129)::(aj n)::(uu)::(uu)::(uu)::(aj op)::(un 71)) [] .norm ((ao 129)::(aj n)::(uu)::(uu)::(uu)::(aj (YO.wrap YO.i8 (op+1)))::(un 71)) ([]):=by
 have c0:= @aR op
 have c1:= @gE op o0 o1
 exact aJ.ai mixed ([tC (eB 31 (bT (Xl o1))),aw c0,tT,tT,tT,tC (eT (cP 2 true (by ((try simp only [hN] at*);omega):bz op=2))),tC (eT (cP 2 true (by ((try simp only [hN] at*);omega):bz op=2))),tC (cP 2 true (by ((try simp only [hN] at*);omega):bz op=2)),tC (eT (nt (by ((try simp only [hN] at*);omega):(op==15)=false))),tC (eT (nt (by ((try simp only [hN] at*);omega):(op==15)=false))),tC (nt (by ((try simp only [hN] at*);omega):(op==15)=false))]++Xg 4 (tC (eF (nt (by ((try simp only [hN] at*);omega):(op==1)=false))))++ [tC (nt (by ((try simp only [hN] at*);omega):(op==1)=false))]++Xg 8 tF++(bK 8 225++ [aw c1,tT,tT,tT,tT,tC (by ((try simp only [hN] at*);omega):(xp op==YO.wrap YO.u8 n)=false)])) (by kernel_rfl)
def xj (Q3:Int) (SW:Int) (Ww:Int):Prop:= ∀(n:Int) (n0:0≤n) (n1:n≤7),aJ Xh (db Tryz.f36 0) ⟨[0,1,5],[],[]⟩ 0 ((ao Q3)::(aj n)::(uu)::(uu)::(uu)::(aj SW)::(un 71)) [] .norm ((ao Q3)::(aj n)::(uu)::(uu)::(uu)::(aj Ww)::(un 71)) ([])
theorem I8:xj 129 15 16:=by
 intro n n0 n1
 have c0:= @aR 15
 exact aJ.ai mixed (([tT,aw c0]++bK 45 17837692177983)++Xg 9 tF) (by kernel_rfl)
theorem Lg:xj 129 1 2:=by
 intro n n0 n1
 have c0:= @aR 1
 exact aJ.ai mixed ([tT,aw c0]++Xg 12 tT++(bK 33 4354905316)++Xg 9 tF) (by kernel_rfl)
theorem Fw (n op:Int) (o0:0≤op) (o1:op≤31) (n0:0≤n) (n1:n≤7) (hc:bz op=3) (hn:xp op=n):aJ Xh (db Tryz.f36 0) ⟨[4],[],[]⟩ 0 ((ao 193)::(aj n)::(uu)::(uu)::(uu)::(aj op)::(un 71)) [] (Ex.ret) (un 4++(aj op)::(un 72)) ([]):=by
 have c0:= @aR op
 have c1:= @gE op o0 o1
 exact aJ.ai mixed ([tC (eB 31 (bT (Xl o1))),aw c0]++Xg 9 tF++(bK 8 127)++Xg 8 (tC (eF (cP 3 true (by ((try simp only [hN] at*);omega):bz op=3))))++ [tC (cP 3 true (by ((try simp only [hN] at*);omega):bz op=3)),tF,tF,tF,tF,tT,tT,tT,aw c1,tT,tT,tT,tT,tC (by ((try simp only [hN] at*);omega):(xp op==YO.wrap YO.u8 n)=true)]) (by kernel_rfl)
theorem Lc:B3 3 193:=by
 intro n op o0 o1 n0 n1 hc
 have c0:= @aR op
 exact aJ.ai mixed ([tC (eB 31 (bT (Xl o1))),aw c0]++Xg 9 tF++(bK 8 127)++Xg 3 (tC (eF (by ((try simp only [hN] at*);omega):(bz op==3)=false)))++([tF,tF,tC (eF (by ((try simp only [hN] at*);omega):(bz op==3)=false)),tF,tC (eF (by ((try simp only [hN] at*);omega):(bz op==3)=false)),tF,tF,tC (eF (by ((try simp only [hN] at*);omega):(bz op==3)=false)),tF,tC (eF (by ((try simp only [hN] at*);omega):(bz op==3)=false)),tF,tF,tC (eF (by ((try simp only [hN] at*);omega):(bz op==3)=false)),tF,tC (by ((try simp only [hN] at*);omega):(bz op==3)=false)]++bK 10 519)++Xg 9 tF) (by kernel_rfl)
theorem Lb (n op:Int) (o0:0≤op) (o1:op≤31) (n0:0≤n) (n1:n≤7) (hc:bz op=3) (hn:xp op≠n):aJ Xh (db Tryz.f36 0) ⟨[0,1,5],[],[]⟩ 0 ((ao 193)::(aj n)::(uu)::(uu)::(uu)::(aj op)::(un 71)) [] .norm ((ao 193)::(aj n)::(uu)::(uu)::(uu)::(aj (YO.wrap YO.i8 (op+1)))::(un 71)) ([]):=by
 have c0:= @aR op
 have c1:= @gE op o0 o1
 exact aJ.ai mixed ([tC (eB 31 (bT (Xl o1))),aw c0]++Xg 9 tF++(bK 8 127)++Xg 8 (tC (eF (cP 3 true (by ((try simp only [hN] at*);omega):bz op=3))))++ [tC (cP 3 true (by ((try simp only [hN] at*);omega):bz op=3)),tF,tF,tF,tF,tT,tT,tT,aw c1,tT,tT,tT,tT,tC (by ((try simp only [hN] at*);omega):(xp op==YO.wrap YO.u8 n)=false)]) (by kernel_rfl)
theorem Fu (n op:Int) (o0:0≤op) (o1:op≤31) (n0:0≤n) (n1:n≤7) (hc:bz op=4) (WT:op≠23) (W6:op≠24) (hn:xp op=n):aJ Xh (db Tryz.f36 0) ⟨[4],[],[]⟩ 0 ((ao 211)::(aj n)::(uu)::(uu)::(uu)::(aj op)::(un 71)) [] (Ex.ret) (un 4++(aj op)::(un 72)) ([]):=by
 have c0:= @aR op
 have c1:= @gE op o0 o1
 exact aJ.ai mixed ([tC (eB 31 (bT (Xl o1))),aw c0]++Xg 9 tF++(bK 8 39)++Xg 8 tT++ [tC (eT (cP 4 true (by ((try simp only [hN] at*);omega):bz op=4))),tC (eT (cP 4 true (by ((try simp only [hN] at*);omega):bz op=4))),tT,tC (cP 4 true (by ((try simp only [hN] at*);omega):bz op=4)),tT,tC (eT (nt (by ((try simp only [hN] at*);omega):(op==23)=false))),tC (eT (nt (by ((try simp only [hN] at*);omega):(op==23)=false))),tT,tC (nt (by ((try simp only [hN] at*);omega):(op==23)=false)),tF]++Xg 4 (tC (eF (nt (by ((try simp only [hN] at*);omega):(op==24)=false))))++ [tC (nt (by ((try simp only [hN] at*);omega):(op==24)=false)),tT,tT,aw c1,tT,tT,tT,tT,tC (by ((try simp only [hN] at*);omega):(xp op==YO.wrap YO.u8 n)=true)]) (by kernel_rfl)
theorem La:B3 4 211:=by
 intro n op o0 o1 n0 n1 hc
 have c0:= @aR op
 exact aJ.ai mixed ([tC (eB 31 (bT (Xl o1))),aw c0]++Xg 9 tF++(bK 8 39)++Xg 8 tT++([tC (eT (by ((try simp only [hN] at*);omega):(bz op==4)=false)),tC (eT (by ((try simp only [hN] at*);omega):(bz op==4)=false)),tT,tC (by ((try simp only [hN] at*);omega):(bz op==4)=false)]++bK 16 33225)++Xg 9 tF) (by kernel_rfl)
theorem K9 (n op:Int) (o0:0≤op) (o1:op≤31) (n0:0≤n) (n1:n≤7) (hc:bz op=4) (WT:op≠23) (W6:op≠24) (hn:xp op≠n):aJ Xh (db Tryz.f36 0) ⟨[0,1,5],[],[]⟩ 0 ((ao 211)::(aj n)::(uu)::(uu)::(uu)::(aj op)::(un 71)) [] .norm ((ao 211)::(aj n)::(uu)::(uu)::(uu)::(aj (YO.wrap YO.i8 (op+1)))::(un 71)) ([]):=by
 have c0:= @aR op
 have c1:= @gE op o0 o1
 exact aJ.ai mixed ([tC (eB 31 (bT (Xl o1))),aw c0]++Xg 9 tF++(bK 8 39)++Xg 8 tT++ [tC (eT (cP 4 true (by ((try simp only [hN] at*);omega):bz op=4))),tC (eT (cP 4 true (by ((try simp only [hN] at*);omega):bz op=4))),tT,tC (cP 4 true (by ((try simp only [hN] at*);omega):bz op=4)),tT,tC (eT (nt (by ((try simp only [hN] at*);omega):(op==23)=false))),tC (eT (nt (by ((try simp only [hN] at*);omega):(op==23)=false))),tT,tC (nt (by ((try simp only [hN] at*);omega):(op==23)=false)),tF]++Xg 4 (tC (eF (nt (by ((try simp only [hN] at*);omega):(op==24)=false))))++ [tC (nt (by ((try simp only [hN] at*);omega):(op==24)=false)),tT,tT,aw c1,tT,tT,tT,tT,tC (by ((try simp only [hN] at*);omega):(xp op==YO.wrap YO.u8 n)=false)]) (by kernel_rfl)
theorem I7:xj 211 23 24:=by
 intro n n0 n1
 have c0:= @aR 23
 exact aJ.ai mixed ([tT,aw c0]++Xg 9 tF++(bK 8 39)++Xg 13 tT++(bK 15 16612)++Xg 9 tF) (by kernel_rfl)
theorem I6:xj 211 24 25:=by
 intro n n0 n1
 have c0:= @aR 24
 exact aJ.ai mixed ([tT,aw c0]++Xg 9 tF++(bK 8 39)++Xg 17 tT++(bK 11 1038)++Xg 9 tF) (by kernel_rfl)
def B2 (Q3:Int) (SW:Int):Prop:= ∀(n:Int) (n0:0≤n) (n1:n≤7) (hn:n=Q3),aJ Xh (db Tryz.f36 0) ⟨[4],[],[]⟩ 0 ((ao 247)::(aj n)::(uu)::(uu)::(uu)::(aj SW)::(un 71)) [] (Ex.ret) (un 4++(aj SW)::(un 72)) ([])
theorem I4:B2 3 23:=by
 intro n n0 n1 hn
 have c0:= @aR 23
 have c1:= @gE 23 (by decide) (by decide)
 exact aJ.ai mixed ([tT,aw c0]++Xg 9 tF++(bK 46 61147392026407++ [aw c1,tT,tT,tT])++ [tT,tC (by ((try simp only [hN] at*);omega):(3==YO.wrap YO.u8 n)=true)]) (by kernel_rfl)
def B1 (Q3:Int) (SW:Int) (Ww:Int):Prop:= ∀(n:Int) (n0:0≤n) (n1:n≤7) (hn:n≠Q3),aJ Xh (db Tryz.f36 0) ⟨[0,1,5],[],[]⟩ 0 ((ao 247)::(aj n)::(uu)::(uu)::(uu)::(aj SW)::(un 71)) [] .norm ((ao 247)::(aj n)::(uu)::(uu)::(uu)::(aj Ww)::(un 71)) ([])
theorem Fs:B1 3 23 24:=by
 intro n n0 n1 hn
 have c0:= @aR 23
 have c1:= @gE 23 (by decide) (by decide)
 exact aJ.ai mixed ([tT,aw c0]++Xg 9 tF++(bK 46 61147392026407++ [aw c1,tT,tT,tT])++ [tT,tC (by ((try simp only [hN] at*);omega):(3==YO.wrap YO.u8 n)=false)]) (by kernel_rfl)
theorem I3:B2 6 24:=by
 intro n n0 n1 hn
 have c0:= @aR 24
 have c1:= @gE 24 (by decide) (by decide)
 exact aJ.ai mixed ([tT,aw c0]++Xg 9 tF++(bK 26 9742119)++Xg 9 tT++(bK 11 1778++ [aw c1,tT,tT,tT,tT,tC (by ((try simp only [hN] at*);omega):(6==YO.wrap YO.u8 n)=true)])) (by kernel_rfl)
theorem Fq:B1 6 24 25:=by
 intro n n0 n1 hn
 have c0:= @aR 24
 have c1:= @gE 24 (by decide) (by decide)
 exact aJ.ai mixed ([tT,aw c0]++Xg 9 tF++(bK 26 9742119)++Xg 9 tT++(bK 11 1778++ [aw c1,tT,tT,tT,tT,tC (by ((try simp only [hN] at*);omega):(6==YO.wrap YO.u8 n)=false)])) (by kernel_rfl)
theorem I5:B2 0 15:=by
 intro n n0 n1 hn
 have c0:= @aR 15
 have c1:= @gE 15 (by decide) (by decide)
 exact aJ.ai mixed ([tT,aw c0]++Xg 9 tF++(bK 26 9742119)++Xg 9 tT++(bK 11 1758++ [aw c1,tT,tT,tT,tT,tC (by ((try simp only [hN] at*);omega):(0==YO.wrap YO.u8 n)=true)])) (by kernel_rfl)
theorem Ft:B1 0 15 16:=by
 intro n n0 n1 hn
 have c0:= @aR 15
 have c1:= @gE 15 (by decide) (by decide)
 exact aJ.ai mixed ([tT,aw c0]++Xg 9 tF++(bK 26 9742119)++Xg 9 tT++(bK 11 1758++ [aw c1,tT,tT,tT,tT,tC (by ((try simp only [hN] at*);omega):(0==YO.wrap YO.u8 n)=false)])) (by kernel_rfl)
theorem K8 (n op:Int) (o0:0≤op) (o1:op≤31) (n0:0≤n) (n1:n≤7) (dh:op≠15) (WT:op≠23) (W6:op≠24):aJ Xh (db Tryz.f36 0) ⟨[0,1,5],[],[]⟩ 0 ((ao 247)::(aj n)::(uu)::(uu)::(uu)::(aj op)::(un 71)) [] .norm ((ao 247)::(aj n)::(uu)::(uu)::(uu)::(aj (YO.wrap YO.i8 (op+1)))::(un 71)) ([]):=by
 have c0:= @aR op
 exact aJ.ai mixed ([tC (eB 31 (bT (Xl o1))),aw c0]++Xg 9 tF++(bK 32 4237600551++ [tC (eF (by ((try simp only [hN] at*);omega):(op==23)=false)),tC (eF (by ((try simp only [hN] at*);omega):(op==23)=false)),tT,tC (by ((try simp only [hN] at*);omega):(op==23)=false),tT,tC (eF (by ((try simp only [hN] at*);omega):(op==24)=false)),tC (eF (by ((try simp only [hN] at*);omega):(op==24)=false)),tT,tC (by ((try simp only [hN] at*);omega):(op==24)=false),tT,tT,tF])++Xg 5 (tC (eT (by ((try simp only [hN] at*);omega):(op==15)=false)))++ [tC (by ((try simp only [hN] at*);omega):(op==15)=false),tF]) (by kernel_rfl)
def xi (Q3:Int):Prop:= ∀(n:Int) (n0:0≤n) (n1:n≤7),aJ Xh (db Tryz.f36 0) ⟨[],[],[]⟩ 0 ((ao Q3)::(aj n)::(uu)::(uu)::(uu)::(aj 32)::(un 71)) [] (.exit 0) (un 77) ([])
theorem Fz:xi 129:=by
 intro n n0 n1
 exact aJ.ai mixed [tF] (by kernel_rfl)
theorem Fx:xi 193:=by
 intro n n0 n1
 exact aJ.ai mixed [tF] (by kernel_rfl)
theorem Fv:xi 211:=by
 intro n n0 n1
 exact aJ.ai mixed [tF] (by kernel_rfl)
theorem Fp:xi 247:=by
 intro n n0 n1
 exact aJ.ai mixed [tF] (by kernel_rfl)
abbrev K7 (aa n op:Int):List D:=([ao aa,aj n,cX,cX,cX,aj op]++e8 71)
abbrev O1 (o:Int):List D:=([cX,cX,cX,cX,aj o]++e8 72)
abbrev Px:List D:=(e8 77)
theorem K1 {aa n:Int} (Rd:aa=129∨aa=193∨aa=211∨aa=247) (n0:0≤n) (n1:n≤7) (op:Int) (o0:0≤op) (o1:op≤31) (h:lB aa n op=false):
  aJ Xh (db Tryz.f36 0) ⟨[0,1,5],[],[]⟩ 0 (K7 aa n op) [] .norm (K7 aa n (op+1)) []:=by
 have hw:YO.i8.wrap (op+1)=op+1:=by rw [dJ];omega
 rw [← hw]
 unfold lB IW at h
 rcases Rd with rfl|rfl|rfl|rfl
 ·simp only [if_true] at h
  by_cases R6:op=15
  ·subst R6;exact I8 n n0 n1
  by_cases c1:op=1
  ·subst c1;exact Lg n n0 n1
  by_cases hc:bz op=2
  ·have:xp op≠n:=by intro e;rw [bT ⟨hc,R6,c1⟩,bT e] at h;cases h
   exact Ld n op o0 o1 n0 n1 hc R6 c1 this
  ·exact Lf n op o0 o1 n0 n1 hc
 ·simp only [show ¬(193:Int)=129 by decide,if_false,if_true] at h
  by_cases hc:bz op=3
  ·have:xp op≠n:=by intro e;rw [bT hc,bT e] at h;cases h
   exact Lb n op o0 o1 n0 n1 hc this
  ·exact Lc n op o0 o1 n0 n1 hc
 ·simp only [show ¬(211:Int)=129 by decide,show ¬(211:Int)=193 by decide,if_false,if_true] at h
  by_cases RS:op=23
  ·subst RS;exact I7 n n0 n1
  by_cases Ss:op=24
  ·subst Ss;exact I6 n n0 n1
  by_cases hc:bz op=4
  ·have:xp op≠n:=by intro e;rw [bT ⟨hc,RS,Ss⟩,bT e] at h;cases h
   exact K9 n op o0 o1 n0 n1 hc RS Ss this
  ·exact La n op o0 o1 n0 n1 hc
 ·simp only [show ¬(247:Int)=129 by decide,show ¬(247:Int)=193 by decide,show ¬(247:Int)=211 by decide,if_false] at h
  by_cases RS:op=23
  ·subst RS
   exact Fs n n0 n1 (by rintro rfl;revert h;decide)
  by_cases Ss:op=24
  ·subst Ss
   exact Fq n n0 n1 (by rintro rfl;revert h;decide)
  by_cases R6:op=15
  ·subst R6
   exact Ft n n0 n1 (by rintro rfl;revert h;decide)
  ·exact K8 n op o0 o1 n0 n1 R6 RS Ss
theorem Nd {aa n:Int} (Rd:aa=129∨aa=193∨aa=211∨aa=247) (n0:0≤n) (n1:n≤7) (op:Int) (o0:0≤op) (o1:op≤31) (h:lB aa n op=true):
  aJ Xh (db Tryz.f36 0) ⟨[4],[],[]⟩ 0 (K7 aa n op) [] .ret (O1 op) []:=by
 unfold lB IW at h
 rw [Xp,bP] at h
 obtain ⟨h,hn⟩:=h
 rcases Rd with rfl|rfl|rfl|rfl
 ·simp only [if_true,bP] at h
  exact Fy n op o0 o1 n0 n1 h.1 h.2.1 h.2.2 hn
 ·simp only [show ¬(193:Int)=129 by decide,if_false,if_true,bP] at h
  exact Fw n op o0 o1 n0 n1 h hn
 ·simp only [show ¬(211:Int)=129 by decide,show ¬(211:Int)=193 by decide,if_false,if_true,bP] at h
  exact Fu n op o0 o1 n0 n1 h.1 h.2.1 h.2.2 hn
 ·simp only [show ¬(247:Int)=129 by decide,show ¬(247:Int)=193 by decide,show ¬(247:Int)=211 by decide,if_false,bP] at h
  rcases h with rfl|rfl|rfl
  ·exact I4 n n0 n1 (by rw [← hn];rfl)
  ·exact I3 n n0 n1 (by rw [← hn];rfl)
  ·exact I5 n n0 n1 (by rw [← hn];rfl)
theorem tP {aa n:Int} (Rd:aa=129∨aa=193∨aa=211∨aa=247) (n0:0≤n) (n1:n≤7):∀(m j:Nat),j+m=32→match (gR.drop j).find? (lB aa n) with
  |none=>cA Xh (db Tryz.f36 0) 0 (K7 aa n j) [] (.exit 0) Px []
  |some o=>cA Xh (db Tryz.f36 0) 0 (K7 aa n j) [] .ret (O1 o) []
 |0,j,hj=>by
  obtain rfl:j=32:=by omega
  rw [show (gR.drop 32).find? (lB aa n)=none from rfl]
  rcases Rd with rfl|rfl|rfl|rfl
  ·exact cA.last (Fz n n0 n1) (fun h=>by cases h)
  ·exact cA.last (Fx n n0 n1) (fun h=>by cases h)
  ·exact cA.last (Fv n n0 n1) (fun h=>by cases h)
  ·exact cA.last (Fp n n0 n1) (fun h=>by cases h)
 |m+1,j,hj=>by
  have ih:=tP Rd n0 n1 m (j+1) (by omega)
  rw [ym (by omega),List.find?_cons]
  cases h:lB aa n (j:Int) with
  |true=>exact cA.last (Nd Rd n0 n1 j (by omega) (by omega) h) (fun h=>by cases h)
  |false=>
   have:=K1 Rd n0 n1 j (by omega) (by omega) h
   rw [show ((j:Int)+1)=((j+1:Nat):Int) by omega] at this
   simp only
   split
   ·rename_i e;rw [e] at ih;exact cA.ic this ih
   ·rename_i r e;rw [e] at ih;exact cA.ic this ih
theorem L2 {n0:Nat} {c:Code} {t:List D} {s:List Ob} {ex:Ex} {t':List D} {s':List Ob} (h:cB Xh n0 c t s ex t' s'):cB Xh n0 c t s ex t' s':=h
theorem K3 {aa n:Int} (Rd:aa=129∨aa=193∨aa=211∨aa=247) (n0:0≤n) (n1:n≤7):match gR.find? (lB aa n) with
  |none=>cB Xh 0 (.loop (db Tryz.f36 0)) (K7 aa n 0) [] (.exit 0) Px []
  |some o=>cB Xh 0 (.loop (db Tryz.f36 0)) (K7 aa n 0) [] .ret (O1 o) []:=by
 have h:=tP Rd n0 n1 32 0 rfl
 rw [Yn] at h
 split
 ·rename_i e;rw [e] at h;exact cB.gI (by decide) h
 ·rename_i o e;rw [e] at h;exact cB.gI (by decide) h
theorem Fl (aa n o:Int) (hx:cB Xh 0 (.loop (db Tryz.f36 0)) (K7 aa n 0) [] (.exit 0) (Px) []):aY Xh 36 ([ao aa,aj n]) (aj (-1)):=by
 have c0:= @L2 (nat_lit 0) _ (([ao aa,aj n,cX,cX,cX,aj 0]++e8 71)) ([]) _ _ _ hx
 exact (aY.ai (d:= .int .i8 (-1:Int)) mixed Tryz.func36 (by kernel_rfl) [.head ⟨[0,1,5],[],[]⟩ _ _ _ _ _ _ _ c0]).to (by rfl)
theorem AG (aa n o:Int) (hx:cB Xh 0 (.loop (db Tryz.f36 0)) (K7 aa n 0) [] (.ret) (O1 o) []):aY Xh 36 ([ao aa,aj n]) (aj o):=by
 have c0:= @L2 (nat_lit 0) _ (([ao aa,aj n,cX,cX,cX,aj 0]++e8 71)) ([]) _ _ _ hx
 exact (aY.ai (d:= .int .i8 o) mixed Tryz.func36 (by kernel_rfl) [.head ⟨[0,1,5],[],[]⟩ _ _ _ _ _ _ _ c0]).to (by rfl)
theorem IX {aa n:Int} (Rd:aa=129∨aa=193∨aa=211∨aa=247) (n0:0≤n) (n1:n≤7):aY Xh 36 [ao aa,aj n] (aj (kg aa n)):=by
 have h:=K3 Rd n0 n1
 unfold kg
 split at h
 ·rename_i e;rw [e];exact Fl aa n 0 h
 ·rename_i o e;rw [e];exact AG aa n o h
theorem F9 (X0 X2:List D) (b:List Int) (k:Nat) (bad w:Bool) (rr mm:Int) (l1:((bD b).length:Int)≤1000) (h:(k:Int)<((bD b).length:Int)) (v:Int) (hv:(bD b)[Xi (YO.i64.wrap (YO.i64.wrap ((k:Int)+1) - 1))]? =some (av v)):ak Xh 38 ([.ptr false 1 0]) ([au X0,au [aZ 1 (bD b),ao ((k:Int)),ax bad,ax w,aj rr,aj mm],au X2,aA]) (ao (YO.i64.wrap v)) ([au X0,au [aZ 1 (bD b),ao (YO.i64.wrap ((k:Int)+1)),ax bad,ax w,aj rr,aj mm],au X2,aA]):=(ak.ai (aV:= [0,1,2,3]) (d:= .int .i64 (YO.wrap YO.i64 v)) (s':= [au X0,au [aZ 1 (bD b),ao (YO.i64.wrap ((↑k:Int)+(1:Int))),ax bad,ax w,aj rr,aj mm],au X2,aA]) mixed [tC (by ((try simp only [aK,dJ,bF,aU,dt,bP,cq,ck,gu,eI,bne_eq_false_iff_eq,X8,Yk,Xp,XM] at*);(try unfold cV at*);omega):(decide ((↑k:Int)≥(↑(Xj (bD b)):Int)))=false),.dP (decide ((0:Int)≤YO.i64.wrap (YO.i64.wrap ((↑k:Int)+(1:Int)) - (1:Int)))) true (by ((try simp only [aK,dJ,bF,aU,dt,bP,cq,ck,gu,eI,bne_eq_false_iff_eq,X8,Yk,Xp,XM] at*);(try unfold cV at*);omega)),.get _ _ _ hv]).cast (by rfl) (by rfl)
theorem Br (X0 X2:List D) (b:List Int) (k:Nat) (bad w:Bool) (rr mm:Int) (l1:((bD b).length:Int)≤1000) (h:((bD b).length:Int)≤(k:Int)):ak Xh 38 ([.ptr false 1 0]) ([au X0,au [aZ 1 (bD b),ao ((k:Int)),ax bad,ax w,aj rr,aj mm],au X2,aA]) (ao 0) ([au X0,au [aZ 1 (bD b),ao ((k:Int)),ax true,ax w,aj rr,aj mm],au X2,aA]):=(ak.ai (aV:= [0,1,2,3]) (d:= .int .i64 0) (s':= [au X0,au [aZ 1 (bD b),ao (↑k:Int),ax true,ax w,aj rr,aj mm],au X2,aA]) mixed [tC (by ((try simp only [aK,dJ,bF,aU,dt,bP,cq,ck,gu,eI,bne_eq_false_iff_eq,X8,Yk,Xp,XM] at*);(try unfold cV at*);omega):(decide ((↑k:Int)≥(↑(Xj (bD b)):Int)))=true)]).cast (by rfl) (by rfl)
abbrev OU (X0 X2:List D) (b:List Int) (k:Nat) (bad w:Bool) (rr mm:Int):List Ob:= [au X0,au [aZ 1 (bD b),ao (k:Int),ax bad,ax w,aj rr,aj mm],au X2,aA]
theorem mi (X0 X2:List D) (b:List Int) (hb:du b) (hl:b.length≤1000) (k:Nat) (bad w:Bool) (rr mm:Int):ak Xh 38 [.ptr false 1 0] (OU X0 X2 b k bad w rr mm) (ao (aO b k)) (OU X0 X2 b (aP b k) (cC b k bad) w rr mm):=by
 have l1:((bD b).length:Int)≤1000:=by rw [aK];omega
 by_cases h:k<b.length
 ·have hw:YO.i64.wrap ((k:Int)+1)=((k+1:Nat):Int):=by rw [aU];omega
  have St:YO.i64.wrap (YO.i64.wrap ((k:Int)+1) - 1)=(k:Int):=by rw [hw,aU];omega
  have hv:(bD b)[Xi (YO.i64.wrap (YO.i64.wrap ((k:Int)+1) - 1))]? =some (av (aO b k)):=by
   rw [St,Int.toNat_natCast]
   unfold aO bD
   simp [h,Xr]
  have:=F9 X0 X2 b k bad w rr mm l1 (by rw [aK];omega) (aO b k) hv
  have hr:=dT hb k
  have e:YO.i64.wrap (aO b k)=aO b k:=by rw [aU];omega
  have e1:aP b k=k+1:=by unfold aP;rw [if_pos h]
  have e2:cC b k bad=bad:=by unfold cC;rw [bg (by omega),YF]
  rw [hw,e] at this
  rw [e1,e2]
  exact this
 ·have:=Br X0 X2 b k bad w rr mm l1 (by rw [aK];omega)
  have e0:aO b k=0:=by unfold aO;rw [Xr,List.getElem?_eq_none (by omega)];rfl
  have e1:aP b k=k:=by unfold aP;rw [if_neg h]
  have e2:cC b k bad=true:=by unfold cC;rw [bT (by omega),Bool.or_true]
  rw [e0,e1,e2]
  exact this
theorem Jl (X0 X2:List D) (b:List Int) (hb:du b) (hl:b.length≤1000) (k:Nat) (bad w:Bool) (rr mm:Int) (u:Int) (hs:aY Xh 59 [aB (YO.u64.wrap (YO.u64.wrap (YO.u64.wrap (YO.u64.wrap (0+YO.u64.wrap (YO.u64.wrap (aO b (k))*1))+YO.u64.wrap (YO.u64.wrap (aO b (aP b (k)))*256))+YO.u64.wrap (YO.u64.wrap (aO b (aP b (aP b (k))))*65536))+YO.u64.wrap (YO.u64.wrap (aO b (aP b (aP b (aP b (k)))))*16777216))),aj 32] (aB u)):ak Xh 37 ([.ptr false 1 0,ao 4]) ([au X0,au [aZ 1 (bD b),ao ((k:Int)),ax (bad),ax w,aj rr,aj mm],au X2,aA]) (ao (YO.i64.wrap u)) ([au X0,au [aZ 1 (bD b),ao ((aP b (aP b (aP b (aP b (k)))):Nat)),ax (cC b (aP b (aP b (aP b (k)))) (cC b (aP b (aP b (k))) (cC b (aP b (k)) (cC b (k) (bad))))),ax w,aj rr,aj mm],au X2,aA,aA]):=(ak.ai (aV:= [0,1,2,3]) (d:= .int .i64 (YO.wrap YO.i64 u)) (s':= [au X0,au [aZ 1 (bD b),ao (↑(aP b (aP b (aP b (aP b k)))):Int),ax (cC b (aP b (aP b (aP b k))) (cC b (aP b (aP b k)) (cC b (aP b k) (cC b k bad)))),ax w,aj rr,aj mm],au X2,aA,aA]) mixed [.go 64,tT,.aD _ _ _ _ _ (@mi (X0) (X2) (b) hb hl (k) (bad) (w) (rr) (mm)),tT,tT,.aD _ _ _ _ _ (@mi (X0) (X2) (b) hb hl (aP b k) (cC b k bad) (w) (rr) (mm)),tT,tT,.aD _ _ _ _ _ (@mi (X0) (X2) (b) hb hl (aP b (aP b k)) (cC b (aP b k) (cC b k bad)) (w) (rr) (mm)),tT,tT,.aD _ _ _ _ _ (@mi (X0) (X2) (b) hb hl (aP b (aP b (aP b k))) (cC b (aP b (aP b k)) (cC b (aP b k) (cC b k bad))) (w) (rr) (mm)),tT,tF,aw hs]).cast (by rfl) (by rfl)
theorem pU (X0 X2:List D) (b:List Int) (hb:du b) (hl:b.length≤1000) (k:Nat) (bad w:Bool) (rr mm:Int):ak Xh 37 [.ptr false 1 0,ao 4] (OU X0 X2 b k bad w rr mm) (ao (eJ b k)) (OU X0 X2 b (dG b k) (dL b k bad) w rr mm++ [aA]):=by
 have h0:=dT hb k
 have h1:=dT hb (aP b k)
 have h2:=dT hb (aP b (aP b k))
 have h3:=dT hb (aP b (aP b (aP b k)))
 have e:=Ma h0 h1 h2 h3
 have:=Jl X0 X2 b hb hl k bad w rr mm (fF (aO b k+256*aO b (aP b k)+65536*aO b (aP b (aP b k))+16777216*aO b (aP b (aP b (aP b k)))) 32) (by rw [e];exact l4 _)
 rw [G7 (by omega)] at this
 exact this
theorem Kz (b:List Int) (hb:du b) (hl:b.length≤1000) (k:Nat) (bad w half:Bool) (rr mm W:Int) (n0:0≤aO b k) (n1:aO b k≤255) (hk:(k:Int)<((bD b).length:Int)) (hv:(bD b)[Xi (k:Int)]? =some (av (aO b k))) (h:aO b k<192):aJ Xh (dD Yh 0) fQ 3 (tQ b 137 true) [au zX,bR b (↑k:Int) bad w rr mm,au (xC (-1) W 0 0 0 0 0 0)] .norm (tU b) ([au zX,bR b (↑(dG b (dW b k)):Int) (dL b (dW b k) (jO b k bad)) w rr mm,au (xC 27 16 0 (dz (aO b k) rr) (dw (aO b k) mm) (eJ b (dW b k)) 0 0)]):=aJ.ai mixed ([tT]++Xg 6 (tC (eT (by ((try simp only [aK,cY] at*);(try unfold cV at*);omega):(decide ((↑(Xj (bD b)):Int)>(↑k:Int)))=true)))++ [tT,.get _ _ _ hv,tC (eT (by ((try simp only [aK,cY] at*);(try unfold cV at*);omega):(decide ((↑(Xj (bD b)):Int)>(↑k:Int)))=true)),tC (eT (by ((try simp only [aK,cY] at*);(try unfold cV at*);omega):(decide ((↑(Xj (bD b)):Int)>(↑k:Int)))=true)),tC (by ((try simp only [aK,cY] at*);(try unfold cV at*);omega):(decide ((↑(Xj (bD b)):Int)>(↑k:Int)))=true),tC (bT h),.aD _ _ _ _ _ (@wj (zX) ((xC 27 W 0 0 0 0 0 0)) b hb hl k bad w rr mm),tT]) (by kernel_rfl)
theorem KA (b:List Int) (hb:du b) (hl:b.length≤1000) (k:Nat) (bad w half:Bool) (rr mm W:Int) (n0:0≤aO b k) (n1:aO b k≤255) (hk:(k:Int)<((bD b).length:Int)) (hv:(bD b)[Xi (k:Int)]? =some (av (aO b k))) (h:aO b k<192):aJ Xh (dD Yh 0) fQ 3 (tQ b 137 false) [au zX,bR b (↑k:Int) bad w rr mm,au (xC (-1) W 0 0 0 0 0 0)] .norm (tU b) ([au zX,bR b (↑(dG b (dW b k)):Int) (dL b (dW b k) (jO b k bad)) w rr mm,au (xC 27 W 0 (dz (aO b k) rr) (dw (aO b k) mm) (eJ b (dW b k)) 0 0)]):=aJ.ai mixed ([tT]++Xg 6 (tC (eT (by ((try simp only [aK,cY] at*);(try unfold cV at*);omega):(decide ((↑(Xj (bD b)):Int)>(↑k:Int)))=true)))++ [tT,.get _ _ _ hv,tC (eT (by ((try simp only [aK,cY] at*);(try unfold cV at*);omega):(decide ((↑(Xj (bD b)):Int)>(↑k:Int)))=true)),tC (eT (by ((try simp only [aK,cY] at*);(try unfold cV at*);omega):(decide ((↑(Xj (bD b)):Int)>(↑k:Int)))=true)),tC (by ((try simp only [aK,cY] at*);(try unfold cV at*);omega):(decide ((↑(Xj (bD b)):Int)>(↑k:Int)))=true),tC (bT h),.aD _ _ _ _ _ (@wj (zX) ((xC 27 W 0 0 0 0 0 0)) b hb hl k bad w rr mm),tF]) (by kernel_rfl)
theorem MA (b:List Int) (hb:du b) (hl:b.length≤1000) (k:Nat) (bad w half:Bool) (rr mm W:Int) (n0:0≤aO b k) (n1:aO b k≤255) (hk:(k:Int)<((bD b).length:Int)) (hv:(bD b)[Xi (k:Int)]? =some (av (aO b k))) (h:192≤aO b k):aJ Xh (dD Yh 0) fQ 3 (tQ b 137 half) [au zX,bR b (↑k:Int) bad w rr mm,au (xC (-1) W 0 0 0 0 0 0)] .norm (tU b) ([au zX,bR b (↑(aP b k):Int) (gD b k bad) w rr mm,au (xC 0 W (dw (aO b k) mm) (dz (aO b k) rr) 0 0 0 0)]):=aJ.ai mixed ([tT]++Xg 6 (tC (eT (by ((try simp only [aK,cY] at*);(try unfold cV at*);omega):(decide ((↑(Xj (bD b)):Int)>(↑k:Int)))=true)))++ [tT,.get _ _ _ hv,tC (eT (by ((try simp only [aK,cY] at*);(try unfold cV at*);omega):(decide ((↑(Xj (bD b)):Int)>(↑k:Int)))=true)),tC (eT (by ((try simp only [aK,cY] at*);(try unfold cV at*);omega):(decide ((↑(Xj (bD b)):Int)>(↑k:Int)))=true)),tC (by ((try simp only [aK,cY] at*);(try unfold cV at*);omega):(decide ((↑(Xj (bD b)):Int)>(↑k:Int)))=true),tC (bg (Xk.2 h)),.aD _ _ _ _ _ (@gv (zX) ((xC 0 W 0 0 0 0 0 0)) b hb hl k bad w rr mm)]) (by kernel_rfl)
theorem Mz (b:List Int) (hb:du b) (hl:b.length≤1000) (k:Nat) (bad w half:Bool) (rr mm W:Int) (n0:0≤aO b k) (n1:aO b k≤255) (hk:((bD b).length:Int)≤(k:Int)):aJ Xh (dD Yh 0) fQ 3 (tQ b 137 half) [au zX,bR b (↑k:Int) bad w rr mm,au (xC (-1) W 0 0 0 0 0 0)] .norm (tU b) ([au zX,bR b (↑(aP b k):Int) (gD b k bad) w rr mm,au (xC 0 W (dw (aO b k) mm) (dz (aO b k) rr) 0 0 0 0)]):=aJ.ai mixed ([tT]++Xg 8 (tC (eT (by ((try simp only [aK,cY] at*);(try unfold cV at*);omega):(decide ((↑(Xj (bD b)):Int)>(↑k:Int)))=false)))++ [tC (by ((try simp only [aK,cY] at*);(try unfold cV at*);omega):(decide ((↑(Xj (bD b)):Int)>(↑k:Int)))=false),tF,.aD _ _ _ _ _ (@gv (zX) ((xC 0 W 0 0 0 0 0 0)) b hb hl k bad w rr mm)]) (by kernel_rfl)
def nK (Q3:Int) (SW:Int):Prop:= ∀(b:List Int) (hb:du b) (hl:b.length≤1000) (k:Nat) (bad w half:Bool) (rr mm W:Int) (n0:0≤aO b k) (n1:aO b k≤255),aJ Xh (dD Yh 0) fQ 3 (tQ b Q3 half) [au zX,bR b (↑k:Int) bad w rr mm,au (xC (-1) W 0 0 0 0 0 0)] .norm (tU b) ([au zX,bR b (↑(aP b k):Int) (gD b k bad) w rr mm,au (xC SW W (dw (aO b k) mm) (dz (aO b k) rr) 0 0 0 0)])
theorem Pj:nK 1 2:=by
 intro b hb hl k bad w half rr mm W n0 n1
 exact aJ.ai mixed (([tF,tT,tT,.go 64,tT,aW,tF,tT,tT,tT,aW,tF,tF,tT,tF,tT,aW,tF,tF,tF,tT,tF,tT,aW,tF,tF,tF,tF,tT,tF,tT,aW]++bK 8 160++ [aW]++bK 9 320)++([aW]++bK 10 128++ [.aD _ _ _ _ _ (@gv (zX) ((xC 2 W 0 0 0 0 0 0)) b hb hl k bad w rr mm)])) (by kernel_rfl)
theorem Ph:nK 9 3:=by
 intro b hb hl k bad w half rr mm W n0 n1
 exact aJ.ai mixed (([tF,tF,tT,tT,.go 64,tT,aW,tF,tT,tF,tT,aW,tF,tF,tT,tT,tT,aW,tF,tF,tF,tT,tF,tT,aW,tF,tF,tF,tF,tT,tF,tT,aW]++bK 8 160++ [aW]++bK 8 64)++([tT,aW]++bK 10 128++ [.aD _ _ _ _ _ (@gv (zX) ((xC 3 W 0 0 0 0 0 0)) b hb hl k bad w rr mm)])) (by kernel_rfl)
theorem NR:nK 33 4:=by
 intro b hb hl k bad w half rr mm W n0 n1
 exact aJ.ai mixed (([tF,tF,tF,tT,tT,.go 64,tT,aW,tF,tT,tF,tT,aW,tF,tF,tT,tF,tT,aW,tF,tF,tF,tT,tT,tT,aW,tF,tF,tF,tF,tT,tF,tT,aW]++bK 8 160++ [aW,tF,tF,tF,tF,tF,tF,tT])++([tF,tT,aW]++bK 10 128++ [.aD _ _ _ _ _ (@gv (zX) ((xC 4 W 0 0 0 0 0 0)) b hb hl k bad w rr mm)])) (by kernel_rfl)
theorem NQ:nK 41 5:=by
 intro b hb hl k bad w half rr mm W n0 n1
 exact aJ.ai mixed (([tF,tF,tF,tF,tT,tT,.go 64,tT,aW,tF,tT,tF,tT,aW,tF,tF,tT,tF,tT,aW,tF,tF,tF,tT,tF,tT,aW,tF,tF,tF,tF,tT,tT,tT,aW]++bK 8 160++ [aW,tF,tF,tF,tF,tF,tF])++([tT,tF,tT,aW]++bK 10 128++ [.aD _ _ _ _ _ (@gv (zX) ((xC 5 W 0 0 0 0 0 0)) b hb hl k bad w rr mm)])) (by kernel_rfl)
theorem NP:nK 49 6:=by
 intro b hb hl k bad w half rr mm W n0 n1
 exact aJ.ai mixed (([tF,tF,tF,tF,tF,tT,tT,.go 64,tT,aW,tF,tT,tF,tT,aW,tF,tF,tT,tF,tT,aW,tF,tF,tF,tT,tF,tT,aW,tF,tF,tF,tF,tT,tF,tT,aW]++bK 8 224++ [aW,tF,tF,tF,tF,tF])++([tF,tT,tF,tT,aW]++bK 10 128++ [.aD _ _ _ _ _ (@gv (zX) ((xC 6 W 0 0 0 0 0 0)) b hb hl k bad w rr mm)])) (by kernel_rfl)
theorem NN:nK 57 7:=by
 intro b hb hl k bad w half rr mm W n0 n1
 exact aJ.ai mixed ((bK 8 192++ [.go 64,tT,aW,tF,tT,tF,tT,aW,tF,tF,tT,tF,tT,aW,tF,tF,tF,tT,tF,tT,aW,tF,tF,tF,tF,tT,tF,tT,aW]++bK 8 160++ [aW,tF,tF,tF,tF])++([tF,tF,tT,tT,tT,aW]++bK 10 128++ [.aD _ _ _ _ _ (@gv (zX) ((xC 7 W 0 0 0 0 0 0)) b hb hl k bad w rr mm)])) (by kernel_rfl)
theorem Mt:nK 133 8:=by
 intro b hb hl k bad w half rr mm W n0 n1
 exact aJ.ai mixed ((bK 8 128++ [.go 64,tT,aW,tF,tT,tF,tT,aW,tF,tF,tT,tF,tT,aW,tF,tF,tF,tT,tF,tT,aW,tF,tF,tF,tF,tT,tF,tT,aW]++bK 8 160++ [aW,tF,tF,tF,tF])++([tF,tF,tT,tF,tT,aW]++bK 10 384++ [.aD _ _ _ _ _ (@gv (zX) ((xC 8 W 0 0 0 0 0 0)) b hb hl k bad w rr mm)])) (by kernel_rfl)
theorem Mw (b:List Int) (hb:du b) (hl:b.length≤1000) (k:Nat) (bad w half:Bool) (rr mm W:Int) (n0:0≤aO b k) (n1:aO b k≤255) (o:Int) (hg:aY Xh 36 [ao 129,aj (YO.i8.wrap ((Xf 8 (dz (aO b k) rr)&&&Xf 8 7).toNat:Int))] (aj o)):aJ Xh (dD Yh 0) fQ 3 (tQ b 129 half) [au zX,bR b (↑k:Int) bad w rr mm,au (xC (-1) W 0 0 0 0 0 0)] .norm (tU b) ([au zX,bR b (↑(dG b (aP b k)):Int) (dL b (aP b k) (gD b k bad)) w rr mm,au (xC o W (dw (aO b k) mm) 0 0 0 (eJ b (aP b k)) 0)]):=aJ.ai mixed (Xg 8 tF++ [tT,tT,.aD _ _ _ _ _ (@gv (zX) ((xC (-1) W 0 0 0 0 0 0)) b hb hl k bad w rr mm),aw hg,tF,tF,tF,tT,tT,.aD _ _ _ _ _ (@pU (zX) ((xC o W (dw (aO b k) mm) 0 0 0 0 0)) b hb hl (aP b k) (gD b k bad) w rr mm),tF]) (by kernel_rfl)
theorem Mv (b:List Int) (hb:du b) (hl:b.length≤1000) (k:Nat) (bad w half:Bool) (rr mm W:Int) (n0:0≤aO b k) (n1:aO b k≤255) (o:Int) (hg:aY Xh 36 [ao 193,aj (YO.i8.wrap ((Xf 8 (dz (aO b k) rr)&&&Xf 8 7).toNat:Int))] (aj o)) (ho:o≠15):aJ Xh (dD Yh 0) fQ 3 (tQ b 193 half) [au zX,bR b (↑k:Int) bad w rr mm,au (xC (-1) W 0 0 0 0 0 0)] .norm (tU b) ([au zX,bR b (↑(aP b (aP b k)):Int) (cC b (aP b k) (gD b k bad)) w rr mm,au (xC o W (dw (aO b k) mm) 0 0 0 (aO b (aP b k)) 0)]):=aJ.ai mixed (Xg 9 tF++ [tT,tT,.aD _ _ _ _ _ (@gv (zX) ((xC (-1) W 0 0 0 0 0 0)) b hb hl k bad w rr mm),aw hg,tT,tT,tT,tF,tC (by ((try simp only [aK,cY] at*);(try unfold cV at*);omega):(o==15)=false),tT,.aD _ _ _ _ _ (@mi (zX) ((xC o W (dw (aO b k) mm) 0 0 0 0 0)) b hb hl (aP b k) (gD b k bad) w rr mm)]) (by kernel_rfl)
theorem Mu (b:List Int) (hb:du b) (hl:b.length≤1000) (k:Nat) (bad w half:Bool) (rr mm W:Int) (n0:0≤aO b k) (n1:aO b k≤255) (o:Int) (hg:aY Xh 36 [ao 211,aj (YO.i8.wrap ((Xf 8 (dz (aO b k) rr)&&&Xf 8 7).toNat:Int))] (aj o)) (ho:o≠15):aJ Xh (dD Yh 0) fQ 3 (tQ b 211 half) [au zX,bR b (↑k:Int) bad w rr mm,au (xC (-1) W 0 0 0 0 0 0)] .norm (tU b) ([au zX,bR b (↑(aP b k):Int) (gD b k bad) w rr mm,au (xC o W (dw (aO b k) mm) 0 0 0 0 0)]):=aJ.ai mixed (Xg 10 tF++ [tT,tT,.aD _ _ _ _ _ (@gv (zX) ((xC (-1) W 0 0 0 0 0 0)) b hb hl k bad w rr mm),aw hg,tT,tT,tT,tF,tC (by ((try simp only [aK,cY] at*);(try unfold cV at*);omega):(o==15)=false),tF]) (by kernel_rfl)
theorem Kv (b:List Int) (hb:du b) (hl:b.length≤1000) (k:Nat) (bad w half:Bool) (rr mm W:Int) (n0:0≤aO b k) (n1:aO b k≤255) (o:Int) (hg:aY Xh 36 [ao 247,aj (YO.i8.wrap ((Xf 8 (dz (aO b k) rr)&&&Xf 8 7).toNat:Int))] (aj o)) (ho:o≠15):aJ Xh (dD Yh 0) fQ 3 (tQ b 247 half) [au zX,bR b (↑k:Int) bad w rr mm,au (xC (-1) W 0 0 0 0 0 0)] .norm (tU b) ([au zX,bR b (↑(aP b k):Int) (gD b k bad) w rr mm,au (xC o W (dw (aO b k) mm) 0 0 0 0 0)]):=aJ.ai mixed (Xg 11 tF++ [tT,.aD _ _ _ _ _ (@gv (zX) ((xC (-1) W 0 0 0 0 0 0)) b hb hl k bad w rr mm),aw hg,tT,tT,tT,tF,tC (by ((try simp only [aK,cY] at*);(try unfold cV at*);omega):(o==15)=false),tF]) (by kernel_rfl)
theorem Ku (b:List Int) (hb:du b) (hl:b.length≤1000) (k:Nat) (bad w half:Bool) (rr mm W:Int) (n0:0≤aO b k) (n1:aO b k≤255) (hg:aY Xh 36 [ao 247,aj (YO.i8.wrap ((Xf 8 (dz (aO b k) rr)&&&Xf 8 7).toNat:Int))] (aj 15)):aJ Xh (dD Yh 0) fQ 3 (tQ b 247 half) [au zX,bR b (↑k:Int) bad w rr mm,au (xC (-1) W 0 0 0 0 0 0)] .norm (tU b) ([au zX,bR b (↑(dG b (aP b k)):Int) (dL b (aP b k) (gD b k bad)) w rr mm,au (xC 15 W (dw (aO b k) mm) 0 0 0 (eJ b (aP b k)) 0)]):=aJ.ai mixed (Xg 11 tF++ [tT,.aD _ _ _ _ _ (@gv (zX) ((xC (-1) W 0 0 0 0 0 0)) b hb hl k bad w rr mm),aw hg,tT,tT,tT,tF,tT,.aD _ _ _ _ _ (@pU (zX) ((xC 15 W (dw (aO b k) mm) 0 0 0 0 0)) b hb hl (aP b k) (gD b k bad) w rr mm),tF]) (by kernel_rfl)
theorem NU (b:List Int) (hb:du b) (hl:b.length≤1000) (k:Nat) (bad w half:Bool) (rr mm W:Int) (n0:0≤aO b k) (n1:aO b k≤255):aJ Xh (dD Yh 0) fQ 3 (tQ b 199 half) [au zX,bR b (↑k:Int) bad w rr mm,au (xC (-1) W 0 0 0 0 0 0)] .norm (tU b) ([au zX,bR b (↑(dG b (aP b k)):Int) (dL b (aP b k) (gD b k bad)) w rr mm,au (xC 1 W (dw (aO b k) mm) 0 0 0 (eJ b (aP b k)) 0)]):=aJ.ai mixed (Xg 12 tF++ [tT,.aD _ _ _ _ _ (@gv (zX) ((xC 1 W 0 0 0 0 0 0)) b hb hl k bad w rr mm),.aD _ _ _ _ _ (@ee (zX) ((xC 1 W (dw (aO b k) mm) 0 0 0 0 0)) b hb hl (aP b k) (gD b k bad) w rr mm)]) (by kernel_rfl)
theorem NW (b:List Int) (hb:du b) (hl:b.length≤1000) (k:Nat) (bad w half:Bool) (rr mm W:Int) (n0:0≤aO b k) (n1:aO b k≤255):aJ Xh (dD Yh 0) fQ 3 (tQ b 139 half) [au zX,bR b (↑k:Int) bad w rr mm,au (xC (-1) W 0 0 0 0 0 0)] .norm (tU b) ([au zX,bR b (↑(dG b (dW b k)):Int) (dL b (dW b k) (jO b k bad)) w rr mm,au (xC 26 W (dz (aO b k) rr) 0 (dw (aO b k) mm) (eJ b (dW b k)) 0 0)]):=aJ.ai mixed (Xg 13 tF++ [tT,.aD _ _ _ _ _ (@wj (zX) ((xC 26 W 0 0 0 0 0 0)) b hb hl k bad w rr mm)]) (by kernel_rfl)
theorem NX (b:List Int) (hb:du b) (hl:b.length≤1000) (k:Nat) (bad w half:Bool) (rr mm W:Int) (n0:0≤aO b k) (n1:aO b k≤255):aJ Xh (dD Yh 0) fQ 3 (tQ b 136 half) [au zX,bR b (↑k:Int) bad w rr mm,au (xC (-1) W 0 0 0 0 0 0)] .norm (tU b) ([au zX,bR b (↑(dG b (dW b k)):Int) (dL b (dW b k) (jO b k bad)) w rr mm,au (xC 27 8 0 (dz (aO b k) rr) (dw (aO b k) mm) (eJ b (dW b k)) 0 0)]):=aJ.ai mixed (Xg 14 tF++ [tT,.aD _ _ _ _ _ (@wj (zX) ((xC 27 8 0 0 0 0 0 0)) b hb hl k bad w rr mm)]) (by kernel_rfl)
theorem NS (b:List Int) (hb:du b) (hl:b.length≤1000) (k:Nat) (bad w half:Bool) (rr mm W:Int) (n0:0≤aO b k) (n1:aO b k≤255):aJ Xh (dD Yh 0) fQ 3 (tQ b 235 half) [au zX,bR b (↑k:Int) bad w rr mm,au (xC (-1) W 0 0 0 0 0 0)] .norm (tU b) ([au zX,bR b (↑(aP b k):Int) (cC b k bad) w rr mm,au (xC 28 8 0 0 0 0 (x8 b k) 0)]):=aJ.ai mixed (Xg 15 tF++ [tT,.aD _ _ _ _ _ (@Am (zX) ((xC 28 8 0 0 0 0 0 0)) b hb hl k bad w rr mm)]) (by kernel_rfl)
theorem NT (b:List Int) (hb:du b) (hl:b.length≤1000) (k:Nat) (bad w half:Bool) (rr mm W:Int) (n0:0≤aO b k) (n1:aO b k≤255):aJ Xh (dD Yh 0) fQ 3 (tQ b 233 half) [au zX,bR b (↑k:Int) bad w rr mm,au (xC (-1) W 0 0 0 0 0 0)] .norm (tU b) ([au zX,bR b (↑(dG b k):Int) (dL b k bad) w rr mm,au (xC 28 W 0 0 0 0 (eJ b k) 0)]):=aJ.ai mixed (Xg 16 tF++ [tT,.aD _ _ _ _ _ (@ee (zX) ((xC 28 W 0 0 0 0 0 0)) b hb hl k bad w rr mm)]) (by kernel_rfl)
theorem NV (b:List Int) (hb:du b) (hl:b.length≤1000) (k:Nat) (bad w half:Bool) (rr mm W:Int) (n0:0≤aO b k) (n1:aO b k≤255):aJ Xh (dD Yh 0) fQ 3 (tQ b 195 half) [au zX,bR b (↑k:Int) bad w rr mm,au (xC (-1) W 0 0 0 0 0 0)] .norm (tU b) ([au zX,bR b (↑k:Int) bad w rr mm,au (xC 30 0 0 0 0 0 0 0)]):=aJ.ai mixed (Xg 17 tF++ [tT]) (by kernel_rfl)
theorem Kw (b:List Int) (hb:du b) (hl:b.length≤1000) (k:Nat) (bad w half:Bool) (rr mm W:Int) (n0:0≤aO b k) (n1:aO b k≤255) (h:aO b k=175):aJ Xh (dD Yh 0) fQ 3 (tQ b 15 half) [au zX,bR b (↑k:Int) bad w rr mm,au (xC (-1) W 0 0 0 0 0 0)] .norm (tU b) ([au zX,bR b (↑(aP b (aP b k)):Int) (gD b (aP b k) (cC b k bad)) w rr mm,au (xC 16 W (dz (aO b (aP b k)) rr) (dw (aO b (aP b k)) mm) 0 0 0 0)]):=aJ.ai mixed (Xg 18 tF++ [tT,.aD _ _ _ _ _ (@Gk (zX) ((xC (-1) W 0 0 0 0 0 0)) b hb hl k bad w rr mm n0 n1 W h)]) (by kernel_rfl)
theorem HJ (b:List Int) (hb:du b) (hl:b.length≤1000) (k:Nat) (bad w half:Bool) (rr mm W:Int) (n0:0≤aO b k) (n1:aO b k≤255) (h:aO b k=5):aJ Xh (dD Yh 0) fQ 3 (tQ b 15 half) [au zX,bR b (↑k:Int) bad w rr mm,au (xC (-1) W 0 0 0 0 0 0)] .norm (tU b) ([au zX,bR b (↑(aP b k):Int) (cC b k bad) w rr mm,au (xC 31 0 0 0 0 0 0 0)]):=aJ.ai mixed (Xg 18 tF++ [tT,.aD _ _ _ _ _ (@BL (zX) ((xC (-1) W 0 0 0 0 0 0)) b hb hl k bad w rr mm n0 n1 W h)]) (by kernel_rfl)
theorem HK (b:List Int) (hb:du b) (hl:b.length≤1000) (k:Nat) (bad w half:Bool) (rr mm W:Int) (n0:0≤aO b k) (n1:aO b k≤255) (h:64≤aO b k) (h2:aO b k<80):aJ Xh (dD Yh 0) fQ 3 (tQ b 15 half) [au zX,bR b (↑k:Int) bad w rr mm,au (xC (-1) W 0 0 0 0 0 0)] .norm (tU b) ([au zX,bR b (↑(aP b (aP b k)):Int) (gD b (aP b k) (cC b k bad)) w rr mm,au (xC 25 W (dz (aO b (aP b k)) rr) (dw (aO b (aP b k)) mm) 0 0 0 (YO.wrap YO.i8 (YO.i64.wrap (aO b k - 64))))]):=aJ.ai mixed (Xg 18 tF++ [tT,.aD _ _ _ _ _ (@BM (zX) ((xC (-1) W 0 0 0 0 0 0)) b hb hl k bad w rr mm n0 n1 W h h2)]) (by kernel_rfl)
theorem Ky (b:List Int) (hb:du b) (hl:b.length≤1000) (k:Nat) (bad w half:Bool) (rr mm W:Int) (n0:0≤aO b k) (n1:aO b k≤255) (h:128≤aO b k) (h2:aO b k<144):aJ Xh (dD Yh 0) fQ 3 (tQ b 15 half) [au zX,bR b (↑k:Int) bad w rr mm,au (xC (-1) W 0 0 0 0 0 0)] .norm (tU b) ([au zX,bR b (↑(dG b (aP b k)):Int) (dL b (aP b k) (cC b k bad)) w rr mm,au (xC 29 W 0 0 0 0 (eJ b (aP b k)) (YO.wrap YO.i8 (YO.i64.wrap (aO b k - 128))))]):=aJ.ai mixed (Xg 18 tF++ [tT,.aD _ _ _ _ _ (@Gm (zX) ((xC (-1) W 0 0 0 0 0 0)) b hb hl k bad w rr mm n0 n1 W h h2)]) (by kernel_rfl)
theorem My (b:List Int) (hb:du b) (hl:b.length≤1000) (k:Nat) (bad w half:Bool) (rr mm W:Int) (n0:0≤aO b k) (n1:aO b k≤255) (h:aO b k=182):aJ Xh (dD Yh 0) fQ 3 (tQ b 15 half) [au zX,bR b (↑k:Int) bad w rr mm,au (xC (-1) W 0 0 0 0 0 0)] .norm (tU b) ([au zX,au [aZ 1 (bD b),ao (↑(dG b (dW b (aP b k))):Int),ax (dL b (dW b (aP b k)) (jO b (aP b k) (cC b k bad))),ax w,aj rr,aj mm],au (xC 26 8 (dz (aO b (aP b k)) rr) 0 (dw (aO b (aP b k)) mm) (eJ b (dW b (aP b k))) 0 0)]):=aJ.ai mixed (Xg 18 tF++ [tT,.aD _ _ _ _ _ (@Jy (zX) ((xC (-1) W 0 0 0 0 0 0)) b hb hl k bad w rr mm n0 n1 W h)]) (by kernel_rfl)
theorem Kx (b:List Int) (hb:du b) (hl:b.length≤1000) (k:Nat) (bad w half:Bool) (rr mm W:Int) (n0:0≤aO b k) (n1:aO b k≤255) (h:aO b k=183):aJ Xh (dD Yh 0) fQ 3 (tQ b 15 half) [au zX,bR b (↑k:Int) bad w rr mm,au (xC (-1) W 0 0 0 0 0 0)] .norm (tU b) ([au zX,au [aZ 1 (bD b),ao (↑(dG b (dW b (aP b k))):Int),ax (dL b (dW b (aP b k)) (jO b (aP b k) (cC b k bad))),ax w,aj rr,aj mm],au (xC 26 16 (dz (aO b (aP b k)) rr) 0 (dw (aO b (aP b k)) mm) (eJ b (dW b (aP b k))) 0 0)]):=aJ.ai mixed (Xg 18 tF++ [tT,.aD _ _ _ _ _ (@Gl (zX) ((xC (-1) W 0 0 0 0 0 0)) b hb hl k bad w rr mm n0 n1 W h)]) (by kernel_rfl)
theorem Mx (b:List Int) (hb:du b) (hl:b.length≤1000) (k:Nat) (bad w half:Bool) (rr mm W:Int) (n0:0≤aO b k) (n1:aO b k≤255) (q0:aO b k≠175) (q1:aO b k≠5) (q2:aO b k≠182) (q3:aO b k≠183) (h:aO b k<64∨80≤aO b k) (h2:aO b k<128∨144≤aO b k):aJ Xh (dD Yh 0) fQ 3 (tQ b 15 half) [au zX,bR b (↑k:Int) bad w rr mm,au (xC (-1) W 0 0 0 0 0 0)] .norm (tU b) ([au zX,bR b (↑(aP b k):Int) (cC b k bad) w rr mm,au (xC (-1) W 0 0 0 0 0 0)]):=aJ.ai mixed (Xg 18 tF++ [tT,.aD _ _ _ _ _ (@Jx (zX) ((xC (-1) W 0 0 0 0 0 0)) b hb hl k bad w rr mm n0 n1 W q0 q1 q2 q3 h h2)]) (by kernel_rfl)
theorem Kt (b:List Int) (hb:du b) (hl:b.length≤1000) (k:Nat) (bad w half:Bool) (rr mm W:Int) (n0:0≤aO b k) (n1:aO b k≤255) (n:Int) (m0:0≤n) (m1:n≤255) (h:112≤n) (h2:n<128):aJ Xh (dD Yh 0) fQ 3 (tQ b n half) [au zX,bR b (↑k:Int) bad w rr mm,au (xC (-1) W 0 0 0 0 0 0)] .norm (tU b) ([au zX,bR b (↑(aP b k):Int) (cC b k bad) w rr mm,au (xC 29 8 0 0 0 0 (x8 b k) (YO.wrap YO.i8 (YO.i64.wrap (n - 112))))]):=aJ.ai mixed [tC (oz 137 (bT h2)),tC (ta 1 (bg (Xk.2 h))),tC (ta 9 (bg (Xk.2 h))),tC (ta 33 (bg (Xk.2 h))),tC (ta 41 (bg (Xk.2 h))),tC (ta 49 (bg (Xk.2 h))),tC (ta 57 (bg (Xk.2 h))),tC (oz 133 (bT h2)),tC (oz 129 (bT h2)),tC (oz 193 (bT h2)),tC (oz 211 (bT h2)),tC (oz 247 (bT h2)),tC (oz 199 (bT h2)),tC (oz 139 (bT h2)),tC (oz 136 (bT h2)),tC (oz 235 (bT h2)),tC (oz 233 (bT h2)),tC (oz 195 (bT h2)),tC (ta 15 (bg (Xk.2 h))),.aD _ _ _ _ _ (@DE (zX) ((xC (-1) W 0 0 0 0 0 0)) b hb hl k bad w rr mm W n m0 m1 h h2)] (by kernel_rfl)
theorem Ks (b:List Int) (hb:du b) (hl:b.length≤1000) (k:Nat) (bad w half:Bool) (rr mm W:Int) (n0:0≤aO b k) (n1:aO b k≤255) (n:Int) (m0:0≤n) (m1:n≤255) (h:184≤n) (h2:n<192):aJ Xh (dD Yh 0) fQ 3 (tQ b n half) [au zX,bR b (↑k:Int) bad w rr mm,au (xC (-1) W 0 0 0 0 0 0)] .norm (tU b) ([au zX,bR b (↑(dG b k):Int) (dL b k bad) w rr mm,au (xC 1 W (YO.wrap YO.i8 (YO.wrap YO.i8 (YO.i64.wrap (n - 184))+YO.wrap YO.i8 (8*mm))) 0 0 0 (eJ b k) 0)]):=aJ.ai mixed [tC (ta 137 (bg (Xk.2 h))),tC (ta 1 (bg (Xk.2 h))),tC (ta 9 (bg (Xk.2 h))),tC (ta 33 (bg (Xk.2 h))),tC (ta 41 (bg (Xk.2 h))),tC (ta 49 (bg (Xk.2 h))),tC (ta 57 (bg (Xk.2 h))),tC (ta 133 (bg (Xk.2 h))),tC (ta 129 (bg (Xk.2 h))),tC (oz 193 (bT h2)),tC (oz 211 (bT h2)),tC (oz 247 (bT h2)),tC (oz 199 (bT h2)),tC (ta 139 (bg (Xk.2 h))),tC (ta 136 (bg (Xk.2 h))),tC (oz 235 (bT h2)),tC (oz 233 (bT h2)),tC (oz 195 (bT h2)),tC (ta 15 (bg (Xk.2 h))),.aD _ _ _ _ _ (@DD (zX) ((xC (-1) W 0 0 0 0 0 0)) b hb hl k bad w rr mm W n m0 m1 h h2)] (by kernel_rfl)
theorem Ms (b:List Int) (hb:du b) (hl:b.length≤1000) (k:Nat) (bad w half:Bool) (rr mm W:Int) (n0:0≤aO b k) (n1:aO b k≤255) (n:Int) (m0:0≤n) (m1:n≤255) (h:n<112∨128≤n) (h2:n<184∨192≤n) (q0:n≠137) (q1:n≠1) (q2:n≠9) (q3:n≠33) (q4:n≠41) (q5:n≠49) (q6:n≠57) (q7:n≠133) (q8:n≠129) (q9:n≠193) (da:n≠211) (dj:n≠247) (dq:n≠199) (dp:n≠139) (dn:n≠136) (dh:n≠235) (q16:n≠233) (q17:n≠195) (q18:n≠15):aJ Xh (dD Yh 0) fQ 3 (tQ b n half) [au zX,bR b (↑k:Int) bad w rr mm,au (xC (-1) W 0 0 0 0 0 0)] .norm (tU b) ([au zX,bR b (↑k:Int) bad w rr mm,au (xC (-1) W 0 0 0 0 0 0)]):=aJ.ai mixed [tC (by ((try simp only [aK,cY] at*);(try unfold cV at*);omega):(n==137)=false),tC (by ((try simp only [aK,cY] at*);(try unfold cV at*);omega):(n==1)=false),tC (by ((try simp only [aK,cY] at*);(try unfold cV at*);omega):(n==9)=false),tC (by ((try simp only [aK,cY] at*);(try unfold cV at*);omega):(n==33)=false),tC (by ((try simp only [aK,cY] at*);(try unfold cV at*);omega):(n==41)=false),tC (by ((try simp only [aK,cY] at*);(try unfold cV at*);omega):(n==49)=false),tC (by ((try simp only [aK,cY] at*);(try unfold cV at*);omega):(n==57)=false),tC (by ((try simp only [aK,cY] at*);(try unfold cV at*);omega):(n==133)=false),tC (by ((try simp only [aK,cY] at*);(try unfold cV at*);omega):(n==129)=false),tC (by ((try simp only [aK,cY] at*);(try unfold cV at*);omega):(n==193)=false),tC (by ((try simp only [aK,cY] at*);(try unfold cV at*);omega):(n==211)=false),tC (by ((try simp only [aK,cY] at*);(try unfold cV at*);omega):(n==247)=false),tC (by ((try simp only [aK,cY] at*);(try unfold cV at*);omega):(n==199)=false),tC (by ((try simp only [aK,cY] at*);(try unfold cV at*);omega):(n==139)=false),tC (by ((try simp only [aK,cY] at*);(try unfold cV at*);omega):(n==136)=false),tC (by ((try simp only [aK,cY] at*);(try unfold cV at*);omega):(n==235)=false),tC (by ((try simp only [aK,cY] at*);(try unfold cV at*);omega):(n==233)=false),tC (by ((try simp only [aK,cY] at*);(try unfold cV at*);omega):(n==195)=false),tC (by ((try simp only [aK,cY] at*);(try unfold cV at*);omega):(n==15)=false),.aD _ _ _ _ _ (@Hp (zX) ((xC (-1) W 0 0 0 0 0 0)) b hb hl k bad w rr mm W n m0 m1 h h2)] (by kernel_rfl)
end Go.Proofs.YtbfpahigdpigpaaGreat
namespace Go.Ev
open Go
structure LH where
  x:XS
  at_:Nat
  bad:Bool
def pH (n:Int):Int:=if n=1 then 2 else if n=9 then 3 else if n=33 then 4 else if n=41 then 5 else if n=49 then 6 else if n=57 then 7 else if n=133 then 8 else -1
def tp (b:List Int) (W rr mm:Int) (k:Nat) (bad:Bool):LH:=
  let v:=aO b k
  let k1:=aP b k
  let x1:=cC b k bad
  let u:=aO b k1
  if v=175 then ⟨⟨16,W,dz u rr,dw u mm,0,0,0,0⟩,aP b k1,gD b k1 x1⟩
  else if v=5 then ⟨⟨31,0,0,0,0,0,0,0⟩,k1,x1⟩
  else if 64≤v∧v<80 then ⟨⟨25,W,dz u rr,dw u mm,0,0,0,YO.i8.wrap (YO.i64.wrap (v - 64))⟩,aP b k1,gD b k1 x1⟩
  else if 128≤v∧v<144 then ⟨⟨29,W,0,0,0,0,eJ b k1,YO.i8.wrap (YO.i64.wrap (v - 128))⟩,dG b k1,dL b k1 x1⟩
  else if v=182 then ⟨⟨26,8,dz u rr,0,dw u mm,eJ b (dW b k1),0,0⟩,dG b (dW b k1),dL b (dW b k1) (jO b k1 x1)⟩
  else if v=183 then ⟨⟨26,16,dz u rr,0,dw u mm,eJ b (dW b k1),0,0⟩,dG b (dW b k1),dL b (dW b k1) (jO b k1 x1)⟩
  else ⟨⟨-1,W,0,0,0,0,0,0⟩,k1,x1⟩
def x7 (b:List Int) (n:Int) (W mm:Int) (k:Nat) (bad:Bool):LH:=
  if 112≤n∧n<128 then ⟨⟨29,8,0,0,0,0,x8 b k,YO.i8.wrap (YO.i64.wrap (n - 112))⟩,aP b k,cC b k bad⟩
  else if 184≤n∧n<192 then ⟨⟨1,W,YO.i8.wrap (YO.i8.wrap (YO.i64.wrap (n - 184))+YO.i8.wrap (8*mm)),0,0,0,eJ b k,0⟩,dG b k,dL b k bad⟩
  else ⟨⟨-1,W,0,0,0,0,0,0⟩,k,bad⟩
def nY (b:List Int) (n o W ab:Int) (k:Nat) (bad:Bool):LH:=
  if n=129∨o=15 then ⟨⟨o,W,ab,0,0,0,eJ b k,0⟩,dG b k,dL b k bad⟩
  else if n=193 then ⟨⟨o,W,ab,0,0,0,aO b k,0⟩,aP b k,cC b k bad⟩
  else ⟨⟨o,W,ab,0,0,0,0,0⟩,k,bad⟩
def cK (b:List Int) (n:Int) (half:Bool) (W rr mm:Int) (k:Nat) (bad:Bool):LH:=
  let v:=aO b k
  let k1:=aP b k
  if n=137 then
    (if k<b.length∧v<192 then ⟨⟨27,if half then 16 else W,0,dz v rr,dw v mm,eJ b (dW b k),0,0⟩,dG b (dW b k),dL b (dW b k) (jO b k bad)⟩
    else ⟨⟨0,W,dw v mm,dz v rr,0,0,0,0⟩,k1,gD b k bad⟩)
  else if n=1∨n=9∨n=33∨n=41∨n=49∨n=57∨n=133 then ⟨⟨pH n,W,dw v mm,dz v rr,0,0,0,0⟩,k1,gD b k bad⟩
  else if n=129∨n=193∨n=211∨n=247 then nY b n (kg n (dz v rr%8)) W (dw v mm) k1 (gD b k bad)
  else if n=199 then ⟨⟨1,W,dw v mm,0,0,0,eJ b k1,0⟩,dG b k1,dL b k1 (gD b k bad)⟩
  else if n=139 then ⟨⟨26,W,dz v rr,0,dw v mm,eJ b (dW b k),0,0⟩,dG b (dW b k),dL b (dW b k) (jO b k bad)⟩
  else if n=136 then ⟨⟨27,8,0,dz v rr,dw v mm,eJ b (dW b k),0,0⟩,dG b (dW b k),dL b (dW b k) (jO b k bad)⟩
  else if n=235 then ⟨⟨28,8,0,0,0,0,x8 b k,0⟩,k1,cC b k bad⟩
  else if n=233 then ⟨⟨28,W,0,0,0,0,eJ b k,0⟩,dG b k,dL b k bad⟩
  else if n=195 then ⟨⟨30,0,0,0,0,0,0,0⟩,k,bad⟩
  else if n=15 then tp b W rr mm k bad
  else x7 b n W mm k bad
def lO (b:List Int):LH:=cK b (Gz b 0) (aO b 0==102) (if ku b 0 then 64 else 32) (HM b 0) (HO b 0) (Cv b 0) (KB b 0 false)
def Gc (b:List Int):Option XS:=
  let r:=lO b
  if r.bad=false∧rp r.x=true∧(dF r.x).length=r.at_∧dF r.x=b.take r.at_ then some r.x else none
theorem iT {b:List Int} {k:Nat} {c:Int} {t:List Int} (h:b.drop k=c::t):k<b.length∧aO b k=c∧aP b k=k+1∧(∀x,cC b k x=x)∧b.drop (k+1)=t:=by
 have hk:k<b.length:=by
  rcases Nat.lt_or_ge k b.length with h'|h'
  ·exact h'
  ·rw [List.drop_eq_nil_of_le h'] at h;cases h
 have e:=List.drop_eq_getElem_cons hk
 rw [h] at e
 obtain ⟨e1,e2⟩:=List.cons.inj e
 refine ⟨hk,?_,?_,?_,e2.symm⟩
 ·unfold aO;rw [Xr,List.getElem?_eq_getElem hk];exact e1.symm
 ·unfold aP;rw [if_pos hk]
 ·intro x;unfold cC;rw [bg (by omega),YF]
theorem Cq {b:List Int} {k:Nat} {n:Int} {t:List Int} (n0: -2147483648≤n) (n1:n≤2147483647) (h:b.drop k=bf n++t):
  eJ b k=n∧dG b k=k+4∧(∀x,dL b k x=x)∧b.drop (k+4)=t:=by
 simp only [bf,Xs,XJ] at h
 obtain ⟨_,v0,a0,x0,h1⟩:=iT h
 obtain ⟨_,v1,a1,x1,h2⟩:=iT h1
 obtain ⟨_,v2,a2,x2,h3⟩:=iT h2
 obtain ⟨_,v3,a3,x3,h4⟩:=iT h3
 refine ⟨?_,?_,?_,h4⟩
 ·unfold eJ
  rw [a0,a1,a2,v0,v1,v2,v3,nM]
  omega
 ·unfold dG;rw [a0,a1,a2,a3]
 ·intro x;unfold dL;rw [a0,a1,a2,x0,x1,x2,x3]
theorem vw {b:List Int} {k:Nat} {r m d:Int} {t:List Int} (r0:0≤r) (r1:r≤15) (m0:0≤m) (m1:m≤15) (d0: -2147483648≤d) (d1:d≤2147483647) (h:b.drop k=bI r m d++t):
  k<b.length∧aO b k<192∧dz (aO b k) (r / 8)=r∧dw (aO b k) (m / 8)=m∧eJ b (dW b k)=d∧dG b (dW b k)=k+(bI r m d).length∧(∀x,dL b (dW b k) (jO b k x)=x):=by
 have hb:0≤128+8*(r%8)+m%8∧128+8*(r%8)+m%8≤255:=by omega
 have fin:k<b.length→aO b k=128+8*(r%8)+m%8→k<b.length∧aO b k<192∧dz (aO b k) (r / 8)=r∧dw (aO b k) (m / 8)=m:=by
  intro hk v0
  refine ⟨hk,by omega,?_,?_⟩
  ·rw [v0,Kr hb (by omega)];omega
  ·rw [v0,Kq hb (by omega)];omega
 unfold bI at h
 by_cases hm:m%8=4
 ·rw [if_pos hm] at h
  simp only [Xs] at h
  obtain ⟨hk,v0,a0,x0,h1⟩:=iT h
  obtain ⟨_,v1,a1,x1,h2⟩:=iT h1
  obtain ⟨f1,f2,f3,f4⟩:=Cq d0 d1 h2
  obtain ⟨g1,g2,g3,g4⟩:=fin hk v0
  have hq:aO b k%8=4:=by omega
  have ek:dW b k=k+1+1:=by unfold dW;rw [if_pos hq,a0,a1]
  refine ⟨g1,g2,g3,g4,by rw [ek];exact f1,?_,?_⟩
  ·rw [ek,f2];unfold bI;rw [if_pos hm];simp [bf]
  ·intro x
   rw [ek,f3]
   simp only [jO,if_pos hq]
   rw [a0,x1,x0,v1,v0,bg (by omega),bg (by omega),bg (by decide)]
   simp
 ·rw [if_neg hm] at h
  simp only [Xs] at h
  obtain ⟨hk,v0,a0,x0,h1⟩:=iT h
  obtain ⟨f1,f2,f3,f4⟩:=Cq d0 d1 h1
  obtain ⟨g1,g2,g3,g4⟩:=fin hk v0
  have hq:¬aO b k%8=4:=by omega
  have ek:dW b k=k+1:=by unfold dW;rw [if_neg hq,a0]
  refine ⟨g1,g2,g3,g4,by rw [ek];exact f1,?_,?_⟩
  ·rw [ek,f2];unfold bI;rw [if_neg hm];simp [bf]
  ·intro x
   rw [ek,f3]
   simp only [jO,if_neg hq]
   rw [x0,v0,bg (by omega),bg (by omega)]
   simp
theorem HC {b:List Int} {p:Nat} (hp:sT b 0=p) (hx:vV b 0 false=false) {wide al:Bool} {r m c:Int} {t:List Int} (r0:0≤r) (r1:r≤15) (m0:0≤m) (m1:m≤15)
  (c0:0≤c) (c1:c≤255) (hc:¬(64≤c∧c≤79)) (h:b.drop p=bw wide r m al++c::t):
  Gz b 0=c∧b.drop (Cv b 0)=t∧Cv b 0=p+(bw wide r m al).length+1∧KB b 0 false=false∧ku b 0=wide∧HM b 0=r / 8∧HO b 0=m / 8:=by
 unfold bw at h ⊢
 by_cases hn:bX wide r m al=true
 ·rw [if_pos hn] at h ⊢
  simp only [Xs,XJ] at h
  obtain ⟨_,v0,a0,x0,h1⟩:=iT h
  obtain ⟨_,v1,a1,x1,h2⟩:=iT h1
  have hr:64≤dm wide r m∧dm wide r m≤79∧dm wide r m / 2%2=0∧dm wide r m / 4%2=r / 8∧dm wide r m%2=m / 8∧(dm wide r m / 8%2=1↔wide=true):=by
   unfold dm
   cases wide<;>simp<;>omega
  have q:HN b 0=true:=by unfold HN Ct;rw [hp,v0,bT (by omega)]
  unfold Gz Cv KB ku HM HO
  rw [q,hp,hx]
  simp only [if_true,Bool.true_and]
  rw [a0,v0,v1,a1,x0,x1,hr.2.2.1,hr.2.2.2.1,hr.2.2.2.2.1]
  refine ⟨rfl,h2,rfl,by simp,?_,rfl,rfl⟩
  cases wide
  ·exact bg (fun e=>by have:=hr.2.2.2.2.2.1 e;cases this)
  ·exact bT (hr.2.2.2.2.2.2 rfl)
 ·rw [if_neg hn] at h ⊢
  simp only [XJ] at h
  obtain ⟨_,v0,a0,x0,h1⟩:=iT h
  have q:HN b 0=false:=by unfold HN Ct;rw [hp,v0,bg (by omega)]
  simp only [bX,XM,bP,not_or,Bool.not_eq_true] at hn
  unfold Gz Cv KB ku HM HO
  rw [q,hp,hx]
  simp only [Bool.false_eq_true,if_false,Bool.false_and]
  rw [a0,v0,x0]
  refine ⟨rfl,h1,rfl,rfl,hn.1.1.symm,by omega,by omega⟩
theorem DI {b:List Int} {c:Int} {t:List Int} (h:b=c::t) (hc:c≠102):(aO b 0==102)=false∧sT b 0=0∧vV b 0 false=false:=by
 have v:aO b 0=c:=by rw [h];rfl
 unfold sT vV
 rw [v]
 exact ⟨by simpa using hc,by rw [if_neg hc],by rw [if_neg hc]⟩
theorem Kp {b:List Int} {t:List Int} (h:b=102::t):(aO b 0==102)=true∧sT b 0=1∧vV b 0 false=false:=by
 have v:aO b 0=102:=by rw [h];rfl
 unfold sT vV
 rw [v]
 refine ⟨rfl,?_,?_⟩
 ·rw [if_pos rfl,h];rfl
 ·rw [if_pos rfl,h];rfl
theorem qy {b:List Int} {wide al:Bool} {r m c:Int} {t:List Int} (r0:0≤r) (r1:r≤15) (m0:0≤m) (m1:m≤15) (c0:0≤c) (c1:c≤255) (hc:¬(64≤c∧c≤79)) (h2:c≠102)
  (h:b=bw wide r m al++c::t):∃k,k=(bw wide r m al).length+1∧b.drop k=t∧lO b=cK b c false (if wide then 64 else 32) (r / 8) (m / 8) k false:=by
 have hh:(aO b 0==102)=false∧sT b 0=0∧vV b 0 false=false:=by
  cases e:b with
  |nil=>rw [e] at h;have:=congrArg Xj h;simp at this
  |cons a u=>
   refine DI rfl ?_
   have:=AD (wide:=wide) (al:=al) (t:=t) r0 r1 m0 m1 h2
   rw [← h,e] at this
   exact this
 obtain ⟨e1,e2,e3,e4,e5,e6,e7⟩:=HC hh.2.1 hh.2.2 r0 r1 m0 m1 c0 c1 hc (by rw [Yn];exact h)
 refine ⟨Cv b 0,by rw [e3];omega,e2,?_⟩
 unfold lO
 rw [e1,e4,e5,e6,e7,hh.1]
theorem JF {b:List Int} {wide al:Bool} {r m c:Int} {t:List Int} (r0:0≤r) (r1:r≤15) (m0:0≤m) (m1:m≤15) (c0:0≤c) (c1:c≤255) (hc:¬(64≤c∧c≤79))
  (h:b=102::(bw wide r m al++c::t)):∃k,k=(bw wide r m al).length+2∧b.drop k=t∧lO b=cK b c true (if wide then 64 else 32) (r / 8) (m / 8) k false:=by
 have hh:=Kp h
 obtain ⟨e1,e2,e3,e4,e5,e6,e7⟩:=HC hh.2.1 hh.2.2 r0 r1 m0 m1 c0 c1 hc (by rw [h];rfl)
 refine ⟨Cv b 0,by rw [e3];omega,e2,?_⟩
 unfold lO
 rw [e1,e4,e5,e6,e7,hh.1]
theorem JG {b:List Int} {c:Int} {t:List Int} (c0:0≤c) (c1:c≤255) (hc:¬(64≤c∧c≤79)) (h2:c≠102) (h:b=c::t):b.drop 1=t∧lO b=cK b c false 32 0 0 1 false:=by
 obtain ⟨k,hk,h3,h4⟩:=qy (b:=b) (wide:=false) (al:=false) (r:=0) (m:=0) (c:=c) (t:=t) (by decide) (by decide) (by decide) (by decide) c0 c1 hc h2 (by rw [h];rfl)
 obtain rfl:k=1:=by rw [hk];rfl
 exact ⟨h3,h4⟩
def NB:List LK:= [.int .u8]
def Nc (ds:List D):D:=ds.headD .undef
theorem za (ds:List D) (h:oh NB ds):(Nc ds).cells=some ds:=by
 simp only [NB,oh] at h
 obtain ⟨n,r,rfl,_,rfl⟩:=h
 rfl
theorem BI:∀(xs:List (List D)),(∀ds∈xs,oh NB ds)→∃l:List Int,xs.map Nc=bD l∧du l∧l.length=xs.length
 | [],_=>⟨[],rfl,iA,rfl⟩
 |ds::r,h=>by
  obtain ⟨l,e,ho,hl⟩:=BI r (fun d hd=>h d (List.mem_cons_of_mem _ hd))
  have h1:=h ds (List.mem_cons_self ..)
  simp only [NB,oh] at h1
  obtain ⟨n,r',rfl,hn,rfl⟩:=h1
  refine ⟨n::l,by rw [List.map_cons,e];rfl,fH.2 ⟨?_,ho⟩,by simp [hl]⟩
  simp [YO.has,YO.min,YO.max,YO.signed,YO.bits] at hn
  omega
theorem xc (a:List Int) (n:Nat):bD (a.take n)=(bD a).take n:=by simp [bD,List.map_take]
theorem mD (w:Bool) (r m:Int) (al:Bool):(bw w r m al).length≤1:=by unfold bw;split<;>simp
theorem CJ (r b d:Int):(bI r b d).length=5∨(bI r b d).length=6:=by unfold bI bf;split<;>simp
theorem Gj (x:XS):1≤(dF x).length∧(dF x).length≤11:=by
 unfold dF aN
 have r1:=mD (decide (x.w=64)) x.ae x.ab false
 have r2:=mD (decide (x.w=64)) x.ab x.ae false
 have r3:=mD false 0 x.ab false
 have r4:=mD (decide (x.w=64)) 0 x.ab false
 have r5:=mD (decide (x.w=64)) x.ab x.aa false
 have r6:=mD (decide (x.w=64)) x.ae x.aa (decide (x.w=8))
 have m1:=CJ x.ab x.aa x.af
 have m2:=CJ x.ae x.aa x.af
 have ite:∀ {c:Prop} [Decidable c] {a b:List Int} {m n:Nat},(m≤a.length∧a.length≤n)→(m≤b.length∧b.length≤n)→(m≤(if c then a else b).length∧(if c then a else b).length≤n):=by
  intro c _ a b m n h1 h2
  by_cases hc:c
  ·rw [if_pos hc];exact h1
  ·rw [if_neg hc];exact h2
 have sm:∀ {l:List Int} {m n:Nat},m≤l.length→l.length≤n→(m≤l.length∧l.length≤n):=fun a b=>⟨a,b⟩
 have l7:= @ite (x.w=8) _ [15,182] (if x.w=16 then [15,183] else [139]) 1 2 (by simp) (ite (by simp) (by simp))
 have l8:= @ite (x.w=16) _ [102] [] 0 1 (by simp) (by simp)
 have l9:= @ite (x.w=8) _ [136] [137] 1 1 (by simp) (by simp)
 refine ite (by simp only [Xu,Xx,XE];omega) (ite (by simp only [Xu,Xx,XE];omega) (ite (by simp only [Xu,Xx,XE];omega) (ite (ite (by simp only [Xu,Xx,XE,bf];omega) (by simp only [Xu,Xx,XE,bf];omega)) (ite (by simp only [Xu,Xx,XE];omega) (ite (by simp only [Xu,Xx,XE];omega) (ite ?_ (ite ?_ (ite (ite (by simp) (by simp [bf])) (ite (ite (by simp) (by simp [bf])) (ite (by simp) (by simp)))))))))))
 ·rw [Xu,Xu];omega
 ·rw [Xu,Xu,Xu];omega
theorem zY {x y:XS} {a b:Nat} (h:x=y) (k:a=b):LH.mk x a false=LH.mk y b false:=by rw [h,k]
theorem oD {n:Int} (h:n=129∨n=193∨n=211∨n=247) {b:List Int} {half:Bool} {W rr mm:Int} {k:Nat} {bad:Bool} :
  cK b n half W rr mm k bad=nY b n (kg n (dz (aO b k) rr%8)) W (dw (aO b k) mm) (aP b k) (gD b k bad):=by
 rcases h with e|e|e|e<;>rw [e]<;>simp [cK]
theorem rN {aa n:Int} (hb:aa=193∨aa=211) (n0:0≤n) (n1:n≤7):kg aa n≠15:=by
 have h:∀m:Fin 8,kg 193 (m.val:Int)≠15∧kg 211 (m.val:Int)≠15:=by decide+kernel
 have:=h ⟨n.toNat,by omega⟩
 have e:((n.toNat:Nat):Int)=n:=by omega
 simp only [e] at this
 rcases hb with rfl|rfl
 ·exact this.1
 ·exact this.2
theorem ll {b:List Int} {k:Nat} (h:k≤b.length):dW b k≤b.length∧dG b k≤b.length:=by
 unfold dW dG
 have h1:=jm h
 have h2:=jm h1
 exact ⟨by split<;>omega,jm (jm h2)⟩
theorem MB (b:List Int):Cv b 0≤b.length:=by
 have h0:sT b 0≤b.length:=by unfold sT;split;exact jm (Nat.zero_le _);exact Nat.zero_le _
 unfold Cv
 split
 ·exact jm (jm h0)
 ·exact jm h0
theorem fZ {c:Prop} [Decidable c] {r s:LH} {n:Nat} (h1:r.at_≤n) (h2:s.at_≤n):(if c then r else s).at_≤n:=by split<;>assumption
theorem HH {b:List Int} {W rr mm:Int} {k:Nat} {bad:Bool} (hk:k≤b.length):(tp b W rr mm k bad).at_≤b.length:=by
 have h1:=jm hk
 have h2:=jm h1
 have q1:=ll (ll h1).1
 have q2:=ll h1
 unfold tp
 exact fZ h2 (fZ h1 (fZ h2 (fZ q2.2 (fZ q1.2 (fZ q1.2 h1)))))
theorem HF {b:List Int} {n W mm:Int} {k:Nat} {bad:Bool} (hk:k≤b.length):(x7 b n W mm k bad).at_≤b.length:=by
 unfold x7
 exact fZ (jm hk) (fZ (ll hk).2 hk)
theorem HG {b:List Int} {n o W ab:Int} {k:Nat} {bad:Bool} (hk:k≤b.length):(nY b n o W ab k bad).at_≤b.length:=by
 unfold nY
 exact fZ (ll hk).2 (fZ (jm hk) hk)
theorem HI (b:List Int):(lO b).at_≤b.length:=by
 have hk:=MB b
 have h1:=jm hk
 have m0:=ll (ll hk).1
 unfold lO cK
 exact fZ (fZ m0.2 h1) (fZ h1 (fZ (HG h1) (fZ (ll h1).2 (fZ m0.2 (fZ m0.2 (fZ h1 (fZ (ll hk).2 (fZ hk (fZ (HH hk) (HF hk))))))))))
end Go.Ev
