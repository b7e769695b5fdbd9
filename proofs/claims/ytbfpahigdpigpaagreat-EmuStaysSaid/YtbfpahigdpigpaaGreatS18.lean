import Derived.Test.YtbfpahigdpigpaaGreatS05
import Derived.Test.YtbfpahigdpigpaaGreatS06
import Derived.Test.YtbfpahigdpigpaaGreatS07
import Derived.Test.YtbfpahigdpigpaaGreatS17
open BitVec renaming ofInt→Xf,toNat→Xm
open Go.Proofs.Tryz renaming prog→Xh
open Int renaming toNat→Xi,not_lt→Xk,fdiv→Xq
open Bool renaming and_eq_true→Xp,eq_false_or_eq_true→XB,or_eq_true→XM,not_eq_true'→X8,false_eq_true→Yb,not_eq_false'→Yk,or_false→YF
open Go renaming IntKind→YO
/- Contracts and plain laws that a statement's proof leans on (texts merged:XQ2,ZR0,XQS,XQ2A,XQN,XQ3,XQ3A,XQ4,XQ4A,XQ1E,XQ1F,XQ2E,XQ2F,XQ3E,XQ3F). -/
set_option linter.unusedVariables false
set_option linter.unusedSimpArgs false
set_option maxRecDepth 100000
set_option maxHeartbeats 8000000
namespace Go.Proofs.YtbfpahigdpigpaaGreat
open Go Go.Ev
theorem Hn (X0 X2:List D) (b:List Int) (hb:du b) (hl:b.length≤1000) (k:Nat) (bad w:Bool) (rr mm:Int) (u:Int) (hs:aY Xh 59 [aB (YO.u64.wrap (0+YO.u64.wrap (YO.u64.wrap (aO b (k))*1))),aj 8] (aB u)):ak Xh 37 ([.ptr false 1 0,ao 1]) ([au X0,au [aZ 1 (bD b),ao ((k:Int)),ax (bad),ax w,aj rr,aj mm],au X2]) (ao (YO.i64.wrap u)) ([au X0,au [aZ 1 (bD b),ao ((aP b (k):Nat)),ax (cC b (k) (bad)),ax w,aj rr,aj mm],au X2,aA]):=(ak.ai (aV:= [0,1,2]) (d:= .int .i64 (YO.wrap YO.i64 u)) (s':= [au X0,au [aZ 1 (bD b),ao (↑(aP b k):Int),ax (cC b k bad),ax w,aj rr,aj mm],au X2,aA]) mixed [.go 64,tT,.aD _ _ _ _ _ (@bL (X0) (X2) (b) hb hl (k) (bad) (w) (rr) (mm)),tT,tF,aw hs]).cast (by rfl) (by rfl)
theorem Hm (X0 X2:List D) (b:List Int) (hb:du b) (hl:b.length≤1000) (k:Nat) (bad w:Bool) (rr mm:Int) (u:Int) (hs:aY Xh 59 [aB (YO.u64.wrap (YO.u64.wrap (YO.u64.wrap (YO.u64.wrap (0+YO.u64.wrap (YO.u64.wrap (aO b (k))*1))+YO.u64.wrap (YO.u64.wrap (aO b (aP b (k)))*256))+YO.u64.wrap (YO.u64.wrap (aO b (aP b (aP b (k))))*65536))+YO.u64.wrap (YO.u64.wrap (aO b (aP b (aP b (aP b (k)))))*16777216))),aj 32] (aB u)):ak Xh 37 ([.ptr false 1 0,ao 4]) ([au X0,au [aZ 1 (bD b),ao ((k:Int)),ax (bad),ax w,aj rr,aj mm],au X2]) (ao (YO.i64.wrap u)) ([au X0,au [aZ 1 (bD b),ao ((aP b (aP b (aP b (aP b (k)))):Nat)),ax (cC b (aP b (aP b (aP b (k)))) (cC b (aP b (aP b (k))) (cC b (aP b (k)) (cC b (k) (bad))))),ax w,aj rr,aj mm],au X2,aA]):=(ak.ai (aV:= [0,1,2]) (d:= .int .i64 (YO.wrap YO.i64 u)) (s':= [au X0,au [aZ 1 (bD b),ao (↑(aP b (aP b (aP b (aP b k)))):Int),ax (cC b (aP b (aP b (aP b k))) (cC b (aP b (aP b k)) (cC b (aP b k) (cC b k bad)))),ax w,aj rr,aj mm],au X2,aA]) mixed [.go 64,tT,.aD _ _ _ _ _ (@bL (X0) (X2) (b) hb hl (k) (bad) (w) (rr) (mm)),tT,tT,.aD _ _ _ _ _ (@bL (X0) (X2) (b) hb hl (aP b k) (cC b k bad) (w) (rr) (mm)),tT,tT,.aD _ _ _ _ _ (@bL (X0) (X2) (b) hb hl (aP b (aP b k)) (cC b (aP b k) (cC b k bad)) (w) (rr) (mm)),tT,tT,.aD _ _ _ _ _ (@bL (X0) (X2) (b) hb hl (aP b (aP b (aP b k))) (cC b (aP b (aP b k)) (cC b (aP b k) (cC b k bad))) (w) (rr) (mm)),tT,tF,aw hs]).cast (by rfl) (by rfl)
theorem D0 (v:Int):aY Xh 89 ([aB v,aj 8]) (aB (bo v 8)):=by
 have c0:= @jU 8
 exact (PS (d:= .int .u64 (YO.wrap YO.u64 (↑(Xm (Xf (64:Nat) v&&&Xf (64:Nat) 255)):Int))) [aw c0,tT,tT,tF,tF,tT]).to (by first|rfl|(simp only [wk,D.int.injEq,ev,OJ,show bo v 8=v%256 from rfl];rw [dt];omega))
theorem zZ (v:Int):aY Xh 89 ([aB v,aj 32]) (aB (bo v 32)):=by
 have c0:= @jU 32
 exact (PS (d:= .int .u64 (YO.wrap YO.u64 (↑(Xm (Xf (64:Nat) v&&&Xf (64:Nat) 4294967295)):Int))) [aw c0,tT,tT,tF,tF,tT]).to (by first|rfl|(simp only [wk,D.int.injEq,ev,OK,show bo v 32=v%4294967296 from rfl];rw [dt];omega))
theorem qS (v:Int):aY Xh 59 ([aB v,aj 8]) (aB (fF v 8)):=by
 have c0:= @jU ((8:Int))
 have c1:= @D0 (v)
 by_cases h2:YO.wrap YO.u64 (↑(Xm (Xf (64:Nat) (Xq (bo v (8:Int)) (128:Int))&&&Xf (64:Nat) (1:Int))):Int)=1
 ·exact (aY.ai (d:= .int .u64 (YO.wrap YO.u64 (bo v (8:Int) - (256:Int)))) mixed Tryz.func59 (by kernel_rfl) [aw c0,tF,aw c1,tT,tC (eT (cP 1 true h2)),tC (eT (cP 1 true h2)),tC (cP 1 true h2),tT,tT]).to (by simp only [wk,D.int.injEq,ev];first|exact xL h2|exact xM h2)
 ·exact (aY.ai (d:= .int .u64 (bo v (8:Int))) mixed Tryz.func59 (by kernel_rfl) [aw c0,tF,aw c1,tT,tC (eT (aH h2)),tC (eT (aH h2)),tC (aH h2),tF]).to (by simp only [wk,D.int.injEq,ev];first|exact xL h2|exact xM h2)
theorem l4 (v:Int):aY Xh 59 ([aB v,aj 32]) (aB (fF v 32)):=by
 have c0:= @jU ((32:Int))
 have c1:= @zZ (v)
 by_cases h2:YO.wrap YO.u64 (↑(Xm (Xf (64:Nat) (Xq (bo v (32:Int)) (2147483648:Int))&&&Xf (64:Nat) (1:Int))):Int)=1
 ·exact (aY.ai (d:= .int .u64 (YO.wrap YO.u64 (bo v (32:Int) - (4294967296:Int)))) mixed Tryz.func59 (by kernel_rfl) [aw c0,tF,aw c1,tT,tC (eT (cP 1 true h2)),tC (eT (cP 1 true h2)),tC (cP 1 true h2),tT,tT]).to (by simp only [wk,D.int.injEq,ev];first|exact ti h2|exact tj h2)
 ·exact (aY.ai (d:= .int .u64 (bo v (32:Int))) mixed Tryz.func59 (by kernel_rfl) [aw c0,tF,aw c1,tT,tC (eT (aH h2)),tC (eT (aH h2)),tC (aH h2),tF]).to (by simp only [wk,D.int.injEq,ev];first|exact ti h2|exact tj h2)
theorem Ma {a b c d:Int} (ha:0≤a∧a≤255) (hb:0≤b∧b≤255) (hc:0≤c∧c≤255) (hd:0≤d∧d≤255):
  YO.u64.wrap (YO.u64.wrap (YO.u64.wrap (YO.u64.wrap (0+YO.u64.wrap (YO.u64.wrap a*1))+YO.u64.wrap (YO.u64.wrap b*256))+YO.u64.wrap (YO.u64.wrap c*65536))+YO.u64.wrap (YO.u64.wrap d*16777216))=a+256*b+65536*c+16777216*d:=by
 simp only [dt]
 omega
theorem G7 {v:Int} (h:0≤v∧v≤4294967295):YO.i64.wrap (fF v 32)=YO.i32.wrap v:=by
 rw [show fF v 32=YO.u64.wrap (YO.i32.wrap v) from rfl,aU,dt,nM]
 omega
theorem NJ {v:Int} (h:0≤v∧v≤255):YO.i64.wrap (fF v 8)=YO.i8.wrap v:=by
 rw [show fF v 8=YO.u64.wrap (YO.i8.wrap v) from rfl,aU,dt,dJ]
 omega
theorem ee (X0 X2:List D) (b:List Int) (hb:du b) (hl:b.length≤1000) (k:Nat) (bad w:Bool) (rr mm:Int):ak Xh 37 [.ptr false 1 0,ao 4] (zW X0 X2 b k bad w rr mm) (ao (eJ b k)) (zW X0 X2 b (dG b k) (dL b k bad) w rr mm++ [aA]):=by
 have h0:=dT hb k
 have h1:=dT hb (aP b k)
 have h2:=dT hb (aP b (aP b k))
 have h3:=dT hb (aP b (aP b (aP b k)))
 have e:=Ma h0 h1 h2 h3
 have:=Hm X0 X2 b hb hl k bad w rr mm (fF (aO b k+256*aO b (aP b k)+65536*aO b (aP b (aP b k))+16777216*aO b (aP b (aP b (aP b k)))) 32) (by rw [e];exact l4 _)
 rw [G7 (by omega)] at this
 exact this
theorem Am (X0 X2:List D) (b:List Int) (hb:du b) (hl:b.length≤1000) (k:Nat) (bad w:Bool) (rr mm:Int):ak Xh 37 [.ptr false 1 0,ao 1] (zW X0 X2 b k bad w rr mm) (ao (x8 b k)) (zW X0 X2 b (aP b k) (cC b k bad) w rr mm++ [aA]):=by
 have h0:=dT hb k
 have e:YO.u64.wrap (0+YO.u64.wrap (YO.u64.wrap (aO b k)*1))=aO b k:=by simp only [dt];omega
 have:=Hn X0 X2 b hb hl k bad w rr mm (fF (aO b k) 8) (by rw [e];exact qS _)
 rw [NJ h0] at this
 exact this
abbrev zX:List D:= [aj 0,aj 0,aj 0,aj 0,aj 0,ao 0,ao 0,aj 0]
abbrev xC (op w ab ae aa af aq cc:Int):List D:= [aj op,aj w,aj ab,aj ae,aj aa,ao af,ao aq,aj cc]
abbrev bR (b:List Int) (a:Int) (x w:Bool) (rr mm:Int):Ob:= .box [aZ 1 (bD b),ao a,ax x,ax w,aj rr,aj mm]
abbrev fQ:HS:=⟨[0,2,5,6],[0,1,2],[]⟩
abbrev tQ (b:List Int) (n:Int) (half:Bool):List D:=((aZ 1 (bD b))::(cX)::(.ptr false 0 0)::(cX)::(cX)::(.ptr false 1 0)::(.ptr false 2 0)::(ao n)::(ax half)::(un 19++(ao n)::(un 200)))
abbrev tU (b:List Int):List D:=((aZ 1 (bD b))::(cX)::(.ptr false 0 0)::(cX)::(cX)::(.ptr false 1 0)::(.ptr false 2 0)::(un 222))
theorem hN:(∀l:List Int,(bD l).length=l.length)∧(∀n:Int,YO.i8.wrap n=(n+128)%256 - 128)∧(∀n:Int,YO.u8.wrap n=n%256)∧(∀n:Int,YO.i64.wrap n=(n+9223372036854775808)%18446744073709551616 - 9223372036854775808)∧(∀n:Int,YO.u64.wrap n=n%18446744073709551616)∧(∀ {p:Prop} [Decidable p],(decide p=true)=p)∧(∀ {p:Prop} [Decidable p],(decide p=false)↔ ¬p)∧(∀ {α:Type} [BEq α] [LawfulBEq α] {a b:α},(a==b)=true↔a=b)∧(∀ {α:Type} [BEq α] [LawfulBEq α] {a b:α},(a !=b)=true↔a≠b)∧(∀ {α:Type} [BEq α] [LawfulBEq α] {a b:α},(a==b)=false↔a≠b)∧(∀ {α:Type} [BEq α] [LawfulBEq α] {a b:α},(a !=b)=false↔a=b)∧(∀(b:Bool),((!b)=true)=(b=false))∧(∀(b:Bool),((!b)=false)=(b=true))∧(∀(a b:Bool),((a&&b)=true)=(a=true∧b=true))∧(∀(a b:Bool),((a||b)=true)=(a=true∨b=true)):=
 ⟨aK,dJ,bF,aU,dt,@bP,@cq,@ck,@gu,@eI,@bne_eq_false_iff_eq,by intro b;cases b<;>simp,by intro b;cases b<;>simp,by intro a b;simp,by intro a b;simp⟩
theorem GN (X0 X2:List D) (b:List Int) (hb:du b) (hl:b.length≤1000) (k:Nat) (bad w:Bool) (rr mm:Int) (n0:0≤aO b k) (n1:aO b k≤255) (h:cC b k bad=true):ak Xh 34 ([.ptr false 1 0]) ([au X0,bR b ((k:Int)) (bad) w rr mm,au X2]) (.aQ [aj (dz (aO b k) rr),aj (dw (aO b k) mm)]) ([au X0,bR b ((aP b k:Nat)) (true) w rr mm,au X2]):=ak.ai (aV:= [0,1,2]) mixed [.aD _ _ _ _ _ (@bL (X0) (X2) (b) hb hl (k) (bad) (w) (rr) (mm)),tC (eF h),tC (eF h),tC h] (by kernel_rfl)
theorem GM (X0 X2:List D) (b:List Int) (hb:du b) (hl:b.length≤1000) (k:Nat) (bad w:Bool) (rr mm:Int) (n0:0≤aO b k) (n1:aO b k≤255) (h:cC b k bad=false) (h2:aO b k<192):ak Xh 34 ([.ptr false 1 0]) ([au X0,bR b ((k:Int)) (bad) w rr mm,au X2]) (.aQ [aj (dz (aO b k) rr),aj (dw (aO b k) mm)]) ([au X0,bR b ((aP b k:Nat)) (true) w rr mm,au X2]):=(ak.ai (aV:= [0,1,2]) (s':= [au X0,bR b (↑(aP b k):Int) (decide (aO b k<(192:Int))) w rr mm,au X2]) mixed [.aD _ _ _ _ _ (@bL (X0) (X2) (b) hb hl (k) (bad) (w) (rr) (mm)),tC (eF h),tC (eF h),tC h]).cast rfl (by (simp;omega))
theorem GL (X0 X2:List D) (b:List Int) (hb:du b) (hl:b.length≤1000) (k:Nat) (bad w:Bool) (rr mm:Int) (n0:0≤aO b k) (n1:aO b k≤255) (h:cC b k bad=false) (h2:192≤aO b k):ak Xh 34 ([.ptr false 1 0]) ([au X0,bR b ((k:Int)) (bad) w rr mm,au X2]) (.aQ [aj (dz (aO b k) rr),aj (dw (aO b k) mm)]) ([au X0,bR b ((aP b k:Nat)) (false) w rr mm,au X2]):=(ak.ai (aV:= [0,1,2]) (s':= [au X0,bR b (↑(aP b k):Int) (decide (aO b k<(192:Int))) w rr mm,au X2]) mixed [.aD _ _ _ _ _ (@bL (X0) (X2) (b) hb hl (k) (bad) (w) (rr) (mm)),tC (eF h),tC (eF h),tC h]).cast rfl (by (simp;omega))
theorem ES (X0 X2:List D) (b:List Int) (hb:du b) (hl:b.length≤1000) (k:Nat) (bad w:Bool) (rr mm:Int) (n0:0≤aO b k) (n1:aO b k≤255) (h:cC b k bad=true) (hq:(YO.i64.wrap ((Xf 64 (aO b k)&&&Xf 64 7).toNat:Int)==4)=false):ak Xh 33 ([.ptr false 1 0]) ([au X0,bR b ((k:Int)) (bad) w rr mm,au X2]) (.aQ [aj (dz (aO b k) rr),aj (dw (aO b k) mm),ao (eJ b (aP b k))]) ([au X0,bR b ((dG b (aP b k):Nat)) (dL b (aP b k) true) w rr mm,au X2,aA]):=by
 by_cases h0:YO.i64.wrap (↑(Xm (Xf (64:Nat) (aO b k)&&&Xf (64:Nat) (7:Int))):Int)=4
 ·exfalso;simp only [ck,eI,ne_eq] at hq;first|exact hq h0|exact h0 hq|(rw [bT (by omega),hx] at h1;cases h1)|(rw [bg (by omega),hx] at h1;cases h1)
 ·exact ak.ai (aV:= [0,1,2]) mixed [.aD _ _ _ _ _ (@bL (X0) (X2) (b) hb hl (k) (bad) (w) (rr) (mm)),tC (eF h),tC (eF h),tC h,tF,tF,tT,tC (aH h0),.aD _ _ _ _ _ (@ee (X0) (X2) (b) hb hl (aP b k) (true) (w) (rr) (mm)),.fL [(1,0,aZ 1 (bD b)),(1,3,ax w),(1,4,aj rr),(1,5,aj mm)] [(0,au X0),(2,au X2)]] (by kernel_rfl)
theorem ER (X0 X2:List D) (b:List Int) (hb:du b) (hl:b.length≤1000) (k:Nat) (bad w:Bool) (rr mm:Int) (n0:0≤aO b k) (n1:aO b k≤255) (h:cC b k bad=true) (hq:(YO.i64.wrap ((Xf 64 (aO b k)&&&Xf 64 7).toNat:Int)==4)=true) (m0:0≤aO b (aP b k)) (m1:aO b (aP b k)≤255) (hx:cC b (aP b k) true=true):ak Xh 33 ([.ptr false 1 0]) ([au X0,bR b ((k:Int)) (bad) w rr mm,au X2]) (.aQ [aj (dz (aO b k) rr),aj (dw (aO b k) mm),ao (eJ b (aP b (aP b k)))]) ([au X0,au [aZ 1 (bD b),ao ((dG b (aP b (aP b k)):Nat)),ax (dL b (aP b (aP b k)) true),ax w,aj rr,aj mm],au X2,aA]):=by
 by_cases h0:YO.i64.wrap (↑(Xm (Xf (64:Nat) (aO b k)&&&Xf (64:Nat) (7:Int))):Int)=4
 ·exact ak.ai (aV:= [0,1,2]) mixed [.aD _ _ _ _ _ (@bL (X0) (X2) (b) hb hl (k) (bad) (w) (rr) (mm)),tC (eF h),tC (eF h),tC h,tF,tF,tT,tC (cP 4 true h0),.aD _ _ _ _ _ (@bL (X0) (X2) (b) hb hl (aP b k) (true) (w) (rr) (mm)),tF,tF,tT,.aD _ _ _ _ _ (@ee (X0) (X2) (b) hb hl (aP b (aP b k)) (true) (w) (rr) (mm)),.fL [(1,0,aZ 1 (bD b)),(1,3,ax w),(1,4,aj rr),(1,5,aj mm)] [(0,au X0),(2,au X2)]] (by kernel_rfl)
 ·exfalso;simp only [ck,eI,ne_eq] at hq;first|exact hq h0|exact h0 hq|(rw [bT (by omega),hx] at h1;cases h1)|(rw [bg (by omega),hx] at h1;cases h1)
theorem EN (X0 X2:List D) (b:List Int) (hb:du b) (hl:b.length≤1000) (k:Nat) (bad w:Bool) (rr mm:Int) (n0:0≤aO b k) (n1:aO b k≤255) (h:cC b k bad=false) (h2:aO b k<128) (hq:(YO.i64.wrap ((Xf 64 (aO b k)&&&Xf 64 7).toNat:Int)==4)=false):ak Xh 33 ([.ptr false 1 0]) ([au X0,bR b ((k:Int)) (bad) w rr mm,au X2]) (.aQ [aj (dz (aO b k) rr),aj (dw (aO b k) mm),ao (eJ b (aP b k))]) ([au X0,bR b ((dG b (aP b k):Nat)) (dL b (aP b k) true) w rr mm,au X2,aA]):=by
 by_cases h0:YO.i64.wrap (↑(Xm (Xf (64:Nat) (aO b k)&&&Xf (64:Nat) (7:Int))):Int)=4
 ·exfalso;simp only [ck,eI,ne_eq] at hq;first|exact hq h0|exact h0 hq|(rw [bT (by omega),hx] at h1;cases h1)|(rw [bg (by omega),hx] at h1;cases h1)
 ·exact ak.ai (aV:= [0,1,2]) mixed [.aD _ _ _ _ _ (@bL (X0) (X2) (b) hb hl (k) (bad) (w) (rr) (mm)),tC (eF h),tC (eF h),tC h,tC (eF (bT h2)),tC (eF (bT h2)),tC (bT h2),tC (aH h0),.aD _ _ _ _ _ (@ee (X0) (X2) (b) hb hl (aP b k) (true) (w) (rr) (mm)),.fL [(1,0,aZ 1 (bD b)),(1,3,ax w),(1,4,aj rr),(1,5,aj mm)] [(0,au X0),(2,au X2)]] (by kernel_rfl)
theorem EM (X0 X2:List D) (b:List Int) (hb:du b) (hl:b.length≤1000) (k:Nat) (bad w:Bool) (rr mm:Int) (n0:0≤aO b k) (n1:aO b k≤255) (h:cC b k bad=false) (h2:aO b k<128) (hq:(YO.i64.wrap ((Xf 64 (aO b k)&&&Xf 64 7).toNat:Int)==4)=true) (m0:0≤aO b (aP b k)) (m1:aO b (aP b k)≤255) (hx:cC b (aP b k) true=true):ak Xh 33 ([.ptr false 1 0]) ([au X0,bR b ((k:Int)) (bad) w rr mm,au X2]) (.aQ [aj (dz (aO b k) rr),aj (dw (aO b k) mm),ao (eJ b (aP b (aP b k)))]) ([au X0,au [aZ 1 (bD b),ao ((dG b (aP b (aP b k)):Nat)),ax (dL b (aP b (aP b k)) true),ax w,aj rr,aj mm],au X2,aA]):=by
 by_cases h0:YO.i64.wrap (↑(Xm (Xf (64:Nat) (aO b k)&&&Xf (64:Nat) (7:Int))):Int)=4
 ·exact ak.ai (aV:= [0,1,2]) mixed [.aD _ _ _ _ _ (@bL (X0) (X2) (b) hb hl (k) (bad) (w) (rr) (mm)),tC (eF h),tC (eF h),tC h,tC (eF (bT h2)),tC (eF (bT h2)),tC (bT h2),tC (cP 4 true h0),.aD _ _ _ _ _ (@bL (X0) (X2) (b) hb hl (aP b k) (true) (w) (rr) (mm)),tF,tF,tT,.aD _ _ _ _ _ (@ee (X0) (X2) (b) hb hl (aP b (aP b k)) (true) (w) (rr) (mm)),.fL [(1,0,aZ 1 (bD b)),(1,3,ax w),(1,4,aj rr),(1,5,aj mm)] [(0,au X0),(2,au X2)]] (by kernel_rfl)
 ·exfalso;simp only [ck,eI,ne_eq] at hq;first|exact hq h0|exact h0 hq|(rw [bT (by omega),hx] at h1;cases h1)|(rw [bg (by omega),hx] at h1;cases h1)
theorem EP (X0 X2:List D) (b:List Int) (hb:du b) (hl:b.length≤1000) (k:Nat) (bad w:Bool) (rr mm:Int) (n0:0≤aO b k) (n1:aO b k≤255) (h:cC b k bad=false) (h3:128≤aO b k) (h2:192≤aO b k) (hq:(YO.i64.wrap ((Xf 64 (aO b k)&&&Xf 64 7).toNat:Int)==4)=false):ak Xh 33 ([.ptr false 1 0]) ([au X0,bR b ((k:Int)) (bad) w rr mm,au X2]) (.aQ [aj (dz (aO b k) rr),aj (dw (aO b k) mm),ao (eJ b (aP b k))]) ([au X0,bR b ((dG b (aP b k):Nat)) (dL b (aP b k) true) w rr mm,au X2,aA]):=by
 by_cases h0:YO.i64.wrap (↑(Xm (Xf (64:Nat) (aO b k)&&&Xf (64:Nat) (7:Int))):Int)=4
 ·rcases XB (cC b (aP b k) (decide (aO b k≥(192:Int)))) with h1|h1
  ·exfalso;simp only [ck,eI,ne_eq] at hq;first|exact hq h0|exact h0 hq|(rw [bT (by omega),hx] at h1;cases h1)|(rw [bg (by omega),hx] at h1;cases h1)
  ·exfalso;simp only [ck,eI,ne_eq] at hq;first|exact hq h0|exact h0 hq|(rw [bT (by omega),hx] at h1;cases h1)|(rw [bg (by omega),hx] at h1;cases h1)
 ·exact (ak.ai (aV:= [0,1,2]) (s':= [au X0,au [aZ 1 (bD b),ao (↑(dG b (aP b k)):Int),ax (dL b (aP b k) (decide (aO b k≥(192:Int)))),ax w,aj rr,aj mm],au X2,aA]) mixed [.aD _ _ _ _ _ (@bL (X0) (X2) (b) hb hl (k) (bad) (w) (rr) (mm)),tC (eF h),tC (eF h),tC h,tC (eF (bg (Xk.2 h3))),tC (eF (bg (Xk.2 h3))),tC (bg (Xk.2 h3)),tC (aH h0),.aD _ _ _ _ _ (@ee (X0) (X2) (b) hb hl (aP b k) (decide (aO b k≥(192:Int))) (w) (rr) (mm)),.fL [(1,0,aZ 1 (bD b)),(1,3,ax w),(1,4,aj rr),(1,5,aj mm)] [(0,au X0),(2,au X2)]]).cast rfl (by (simp only [bT h2];done))
theorem EO (X0 X2:List D) (b:List Int) (hb:du b) (hl:b.length≤1000) (k:Nat) (bad w:Bool) (rr mm:Int) (n0:0≤aO b k) (n1:aO b k≤255) (h:cC b k bad=false) (h3:128≤aO b k) (h2:192≤aO b k) (hq:(YO.i64.wrap ((Xf 64 (aO b k)&&&Xf 64 7).toNat:Int)==4)=true) (m0:0≤aO b (aP b k)) (m1:aO b (aP b k)≤255) (hx:cC b (aP b k) true=true):ak Xh 33 ([.ptr false 1 0]) ([au X0,bR b ((k:Int)) (bad) w rr mm,au X2]) (.aQ [aj (dz (aO b k) rr),aj (dw (aO b k) mm),ao (eJ b (aP b (aP b k)))]) ([au X0,au [aZ 1 (bD b),ao ((dG b (aP b (aP b k)):Nat)),ax (dL b (aP b (aP b k)) true),ax w,aj rr,aj mm],au X2,aA]):=by
 by_cases h0:YO.i64.wrap (↑(Xm (Xf (64:Nat) (aO b k)&&&Xf (64:Nat) (7:Int))):Int)=4
 ·rcases XB (cC b (aP b k) (decide (aO b k≥(192:Int)))) with h1|h1
  ·exact ak.ai (aV:= [0,1,2]) mixed [.aD _ _ _ _ _ (@bL (X0) (X2) (b) hb hl (k) (bad) (w) (rr) (mm)),tC (eF h),tC (eF h),tC h,tC (eF (bg (Xk.2 h3))),tC (eF (bg (Xk.2 h3))),tC (bg (Xk.2 h3)),tC (cP 4 true h0),.aD _ _ _ _ _ (@bL (X0) (X2) (b) hb hl (aP b k) (decide (aO b k≥(192:Int))) (w) (rr) (mm)),tC (eF h1),tC (eF h1),tC h1,.aD _ _ _ _ _ (@ee (X0) (X2) (b) hb hl (aP b (aP b k)) (true) (w) (rr) (mm)),.fL [(1,0,aZ 1 (bD b)),(1,3,ax w),(1,4,aj rr),(1,5,aj mm)] [(0,au X0),(2,au X2)]] (by kernel_rfl)
  ·exact (ak.ai (aV:= [0,1,2]) (s':= [au X0,au [aZ 1 (bD b),ao (↑(dG b (aP b (aP b k))):Int),ax (dL b (aP b (aP b k)) (aO b (aP b k) !=(36:Int))),ax w,aj rr,aj mm],au X2,aA]) mixed [.aD _ _ _ _ _ (@bL (X0) (X2) (b) hb hl (k) (bad) (w) (rr) (mm)),tC (eF h),tC (eF h),tC h,tC (eF (bg (Xk.2 h3))),tC (eF (bg (Xk.2 h3))),tC (bg (Xk.2 h3)),tC (cP 4 true h0),.aD _ _ _ _ _ (@bL (X0) (X2) (b) hb hl (aP b k) (decide (aO b k≥(192:Int))) (w) (rr) (mm)),tC (eF h1),tC (eF h1),tC h1,.aD _ _ _ _ _ (@ee (X0) (X2) (b) hb hl (aP b (aP b k)) (aO b (aP b k) !=(36:Int)) (w) (rr) (mm)),.fL [(1,0,aZ 1 (bD b)),(1,3,ax w),(1,4,aj rr),(1,5,aj mm)] [(0,au X0),(2,au X2)]]).cast rfl (by (exfalso;simp only [ck,eI,ne_eq] at hq;first|exact hq h0|exact h0 hq|(rw [bT (by omega),hx] at h1;cases h1)|(rw [bg (by omega),hx] at h1;cases h1)))
 ·exfalso;simp only [ck,eI,ne_eq] at hq;first|exact hq h0|exact h0 hq|(rw [bT (by omega),hx] at h1;cases h1)|(rw [bg (by omega),hx] at h1;cases h1)
theorem EK (X0 X2:List D) (b:List Int) (hb:du b) (hl:b.length≤1000) (k:Nat) (bad w:Bool) (rr mm:Int) (n0:0≤aO b k) (n1:aO b k≤255) (h:cC b k bad=false) (h2:128≤aO b k) (h3:aO b k<192) (hq:(YO.i64.wrap ((Xf 64 (aO b k)&&&Xf 64 7).toNat:Int)==4)=false):ak Xh 33 ([.ptr false 1 0]) ([au X0,bR b ((k:Int)) (bad) w rr mm,au X2]) (.aQ [aj (dz (aO b k) rr),aj (dw (aO b k) mm),ao (eJ b (aP b k))]) ([au X0,bR b ((dG b (aP b k):Nat)) (dL b (aP b k) false) w rr mm,au X2,aA]):=by
 by_cases h0:YO.i64.wrap (↑(Xm (Xf (64:Nat) (aO b k)&&&Xf (64:Nat) (7:Int))):Int)=4
 ·rcases XB (cC b (aP b k) (decide (aO b k≥(192:Int)))) with h1|h1
  ·exfalso;simp only [ck,eI,ne_eq] at hq;first|exact hq h0|exact h0 hq|(rw [bT (by omega),hx] at h1;cases h1)|(rw [bg (by omega),hx] at h1;cases h1)
  ·exfalso;simp only [ck,eI,ne_eq] at hq;first|exact hq h0|exact h0 hq|(rw [bT (by omega),hx] at h1;cases h1)|(rw [bg (by omega),hx] at h1;cases h1)
 ·exact (ak.ai (aV:= [0,1,2]) (s':= [au X0,au [aZ 1 (bD b),ao (↑(dG b (aP b k)):Int),ax (dL b (aP b k) (decide (aO b k≥(192:Int)))),ax w,aj rr,aj mm],au X2,aA]) mixed [.aD _ _ _ _ _ (@bL (X0) (X2) (b) hb hl (k) (bad) (w) (rr) (mm)),tC (eF h),tC (eF h),tC h,tC (eF (bg (Xk.2 h2))),tC (eF (bg (Xk.2 h2))),tC (bg (Xk.2 h2)),tC (aH h0),.aD _ _ _ _ _ (@ee (X0) (X2) (b) hb hl (aP b k) (decide (aO b k≥(192:Int))) (w) (rr) (mm)),.fL [(1,0,aZ 1 (bD b)),(1,3,ax w),(1,4,aj rr),(1,5,aj mm)] [(0,au X0),(2,au X2)]]).cast rfl (by (simp only [bT h2,bg (Int.not_le.2 h3)];done))
theorem EJ (X0 X2:List D) (b:List Int) (hb:du b) (hl:b.length≤1000) (k:Nat) (bad w:Bool) (rr mm:Int) (n0:0≤aO b k) (n1:aO b k≤255) (h:cC b k bad=false) (h2:128≤aO b k) (h3:aO b k<192) (hq:(YO.i64.wrap ((Xf 64 (aO b k)&&&Xf 64 7).toNat:Int)==4)=true) (m0:0≤aO b (aP b k)) (m1:aO b (aP b k)≤255) (hx:cC b (aP b k) false=true):ak Xh 33 ([.ptr false 1 0]) ([au X0,bR b ((k:Int)) (bad) w rr mm,au X2]) (.aQ [aj (dz (aO b k) rr),aj (dw (aO b k) mm),ao (eJ b (aP b (aP b k)))]) ([au X0,au [aZ 1 (bD b),ao ((dG b (aP b (aP b k)):Nat)),ax (dL b (aP b (aP b k)) true),ax w,aj rr,aj mm],au X2,aA]):=by
 by_cases h0:YO.i64.wrap (↑(Xm (Xf (64:Nat) (aO b k)&&&Xf (64:Nat) (7:Int))):Int)=4
 ·rcases XB (cC b (aP b k) (decide (aO b k≥(192:Int)))) with h1|h1
  ·exact ak.ai (aV:= [0,1,2]) mixed [.aD _ _ _ _ _ (@bL (X0) (X2) (b) hb hl (k) (bad) (w) (rr) (mm)),tC (eF h),tC (eF h),tC h,tC (eF (bg (Xk.2 h2))),tC (eF (bg (Xk.2 h2))),tC (bg (Xk.2 h2)),tC (cP 4 true h0),.aD _ _ _ _ _ (@bL (X0) (X2) (b) hb hl (aP b k) (decide (aO b k≥(192:Int))) (w) (rr) (mm)),tC (eF h1),tC (eF h1),tC h1,.aD _ _ _ _ _ (@ee (X0) (X2) (b) hb hl (aP b (aP b k)) (true) (w) (rr) (mm)),.fL [(1,0,aZ 1 (bD b)),(1,3,ax w),(1,4,aj rr),(1,5,aj mm)] [(0,au X0),(2,au X2)]] (by kernel_rfl)
  ·exact (ak.ai (aV:= [0,1,2]) (s':= [au X0,au [aZ 1 (bD b),ao (↑(dG b (aP b (aP b k))):Int),ax (dL b (aP b (aP b k)) (aO b (aP b k) !=(36:Int))),ax w,aj rr,aj mm],au X2,aA]) mixed [.aD _ _ _ _ _ (@bL (X0) (X2) (b) hb hl (k) (bad) (w) (rr) (mm)),tC (eF h),tC (eF h),tC h,tC (eF (bg (Xk.2 h2))),tC (eF (bg (Xk.2 h2))),tC (bg (Xk.2 h2)),tC (cP 4 true h0),.aD _ _ _ _ _ (@bL (X0) (X2) (b) hb hl (aP b k) (decide (aO b k≥(192:Int))) (w) (rr) (mm)),tC (eF h1),tC (eF h1),tC h1,.aD _ _ _ _ _ (@ee (X0) (X2) (b) hb hl (aP b (aP b k)) (aO b (aP b k) !=(36:Int)) (w) (rr) (mm)),.fL [(1,0,aZ 1 (bD b)),(1,3,ax w),(1,4,aj rr),(1,5,aj mm)] [(0,au X0),(2,au X2)]]).cast rfl (by (exfalso;simp only [ck,eI,ne_eq] at hq;first|exact hq h0|exact h0 hq|(rw [bT (by omega),hx] at h1;cases h1)|(rw [bg (by omega),hx] at h1;cases h1)))
 ·exfalso;simp only [ck,eI,ne_eq] at hq;first|exact hq h0|exact h0 hq|(rw [bT (by omega),hx] at h1;cases h1)|(rw [bg (by omega),hx] at h1;cases h1)
theorem EI (X0 X2:List D) (b:List Int) (hb:du b) (hl:b.length≤1000) (k:Nat) (bad w:Bool) (rr mm:Int) (n0:0≤aO b k) (n1:aO b k≤255) (h:cC b k bad=false) (h2:128≤aO b k) (h3:aO b k<192) (hq:(YO.i64.wrap ((Xf 64 (aO b k)&&&Xf 64 7).toNat:Int)==4)=true) (m0:0≤aO b (aP b k)) (m1:aO b (aP b k)≤255) (hx:cC b (aP b k) false=false) (hn:(aO b (aP b k)==36)=false):ak Xh 33 ([.ptr false 1 0]) ([au X0,bR b ((k:Int)) (bad) w rr mm,au X2]) (.aQ [aj (dz (aO b k) rr),aj (dw (aO b k) mm),ao (eJ b (aP b (aP b k)))]) ([au X0,au [aZ 1 (bD b),ao ((dG b (aP b (aP b k)):Nat)),ax (dL b (aP b (aP b k)) true),ax w,aj rr,aj mm],au X2,aA]):=by
 by_cases h0:YO.i64.wrap (↑(Xm (Xf (64:Nat) (aO b k)&&&Xf (64:Nat) (7:Int))):Int)=4
 ·rcases XB (cC b (aP b k) (decide (aO b k≥(192:Int)))) with h1|h1
  ·exact ak.ai (aV:= [0,1,2]) mixed [.aD _ _ _ _ _ (@bL (X0) (X2) (b) hb hl (k) (bad) (w) (rr) (mm)),tC (eF h),tC (eF h),tC h,tC (eF (bg (Xk.2 h2))),tC (eF (bg (Xk.2 h2))),tC (bg (Xk.2 h2)),tC (cP 4 true h0),.aD _ _ _ _ _ (@bL (X0) (X2) (b) hb hl (aP b k) (decide (aO b k≥(192:Int))) (w) (rr) (mm)),tC (eF h1),tC (eF h1),tC h1,.aD _ _ _ _ _ (@ee (X0) (X2) (b) hb hl (aP b (aP b k)) (true) (w) (rr) (mm)),.fL [(1,0,aZ 1 (bD b)),(1,3,ax w),(1,4,aj rr),(1,5,aj mm)] [(0,au X0),(2,au X2)]] (by kernel_rfl)
  ·exact (ak.ai (aV:= [0,1,2]) (s':= [au X0,au [aZ 1 (bD b),ao (↑(dG b (aP b (aP b k))):Int),ax (dL b (aP b (aP b k)) (aO b (aP b k) !=(36:Int))),ax w,aj rr,aj mm],au X2,aA]) mixed [.aD _ _ _ _ _ (@bL (X0) (X2) (b) hb hl (k) (bad) (w) (rr) (mm)),tC (eF h),tC (eF h),tC h,tC (eF (bg (Xk.2 h2))),tC (eF (bg (Xk.2 h2))),tC (bg (Xk.2 h2)),tC (cP 4 true h0),.aD _ _ _ _ _ (@bL (X0) (X2) (b) hb hl (aP b k) (decide (aO b k≥(192:Int))) (w) (rr) (mm)),tC (eF h1),tC (eF h1),tC h1,.aD _ _ _ _ _ (@ee (X0) (X2) (b) hb hl (aP b (aP b k)) (aO b (aP b k) !=(36:Int)) (w) (rr) (mm)),.fL [(1,0,aZ 1 (bD b)),(1,3,ax w),(1,4,aj rr),(1,5,aj mm)] [(0,au X0),(2,au X2)]]).cast rfl (by simp only [_root_.bne,hn];rfl)
 ·exfalso;simp only [ck,eI,ne_eq] at hq;first|exact hq h0|exact h0 hq|(rw [bT (by omega),hx] at h1;cases h1)|(rw [bg (by omega),hx] at h1;cases h1)
theorem EH (X0 X2:List D) (b:List Int) (hb:du b) (hl:b.length≤1000) (k:Nat) (bad w:Bool) (rr mm:Int) (n0:0≤aO b k) (n1:aO b k≤255) (h:cC b k bad=false) (h2:128≤aO b k) (h3:aO b k<192) (hq:(YO.i64.wrap ((Xf 64 (aO b k)&&&Xf 64 7).toNat:Int)==4)=true) (m0:0≤aO b (aP b k)) (m1:aO b (aP b k)≤255) (hx:cC b (aP b k) false=false) (hn:(aO b (aP b k)==36)=true):ak Xh 33 ([.ptr false 1 0]) ([au X0,bR b ((k:Int)) (bad) w rr mm,au X2]) (.aQ [aj (dz (aO b k) rr),aj (dw (aO b k) mm),ao (eJ b (aP b (aP b k)))]) ([au X0,au [aZ 1 (bD b),ao ((dG b (aP b (aP b k)):Nat)),ax (dL b (aP b (aP b k)) false),ax w,aj rr,aj mm],au X2,aA]):=by
 by_cases h0:YO.i64.wrap (↑(Xm (Xf (64:Nat) (aO b k)&&&Xf (64:Nat) (7:Int))):Int)=4
 ·rcases XB (cC b (aP b k) (decide (aO b k≥(192:Int)))) with h1|h1
  ·exact (ak.ai (aV:= [0,1,2]) (s':= [au X0,au [aZ 1 (bD b),ao (↑(dG b (aP b (aP b k))):Int),ax (dL b (aP b (aP b k)) true),ax w,aj rr,aj mm],au X2,aA]) mixed [.aD _ _ _ _ _ (@bL (X0) (X2) (b) hb hl (k) (bad) (w) (rr) (mm)),tC (eF h),tC (eF h),tC h,tC (eF (bg (Xk.2 h2))),tC (eF (bg (Xk.2 h2))),tC (bg (Xk.2 h2)),tC (cP 4 true h0),.aD _ _ _ _ _ (@bL (X0) (X2) (b) hb hl (aP b k) (decide (aO b k≥(192:Int))) (w) (rr) (mm)),tC (eF h1),tC (eF h1),tC h1,.aD _ _ _ _ _ (@ee (X0) (X2) (b) hb hl (aP b (aP b k)) (true) (w) (rr) (mm)),.fL [(1,0,aZ 1 (bD b)),(1,3,ax w),(1,4,aj rr),(1,5,aj mm)] [(0,au X0),(2,au X2)]]).cast rfl (by (exfalso;simp only [ck,eI,ne_eq] at hq;first|exact hq h0|exact h0 hq|(rw [bT (by omega),hx] at h1;cases h1)|(rw [bg (by omega),hx] at h1;cases h1)))
  ·exact (ak.ai (aV:= [0,1,2]) (s':= [au X0,au [aZ 1 (bD b),ao (↑(dG b (aP b (aP b k))):Int),ax (dL b (aP b (aP b k)) (aO b (aP b k) !=(36:Int))),ax w,aj rr,aj mm],au X2,aA]) mixed [.aD _ _ _ _ _ (@bL (X0) (X2) (b) hb hl (k) (bad) (w) (rr) (mm)),tC (eF h),tC (eF h),tC h,tC (eF (bg (Xk.2 h2))),tC (eF (bg (Xk.2 h2))),tC (bg (Xk.2 h2)),tC (cP 4 true h0),.aD _ _ _ _ _ (@bL (X0) (X2) (b) hb hl (aP b k) (decide (aO b k≥(192:Int))) (w) (rr) (mm)),tC (eF h1),tC (eF h1),tC h1,.aD _ _ _ _ _ (@ee (X0) (X2) (b) hb hl (aP b (aP b k)) (aO b (aP b k) !=(36:Int)) (w) (rr) (mm)),.fL [(1,0,aZ 1 (bD b)),(1,3,ax w),(1,4,aj rr),(1,5,aj mm)] [(0,au X0),(2,au X2)]]).cast rfl (by simp only [_root_.bne,hn];rfl)
 ·exfalso;simp only [ck,eI,ne_eq] at hq;first|exact hq h0|exact h0 hq|(rw [bT (by omega),hx] at h1;cases h1)|(rw [bg (by omega),hx] at h1;cases h1)
theorem gv (X0 X2:List D) (b:List Int) (hb:du b) (hl:b.length≤1000) (k:Nat) (bad w:Bool) (rr mm:Int):ak Xh 34 [.ptr false 1 0] (zW X0 X2 b k bad w rr mm) (.aQ [aj (dz (aO b k) rr),aj (dw (aO b k) mm)]) (zW X0 X2 b (aP b k) (gD b k bad) w rr mm):=by
 have h0:=dT hb k
 unfold gD
 cases h:cC b k bad with
 |true=>exact GN X0 X2 b hb hl k bad w rr mm h0.1 h0.2 h
 |false=>
  by_cases h2:aO b k<192
  ·rw [bT h2];exact GM X0 X2 b hb hl k bad w rr mm h0.1 h0.2 h h2
  ·rw [bg h2];exact GL X0 X2 b hb hl k bad w rr mm h0.1 h0.2 h (by omega)
theorem LQ {n:Int} (hn:0≤n∧n≤255):(YO.i64.wrap ((Xf 64 n&&&Xf 64 7).toNat:Int)==4)=decide (n%8=4):=by
 rw [xg,aU]
 by_cases h:n%8=4
 ·rw [bT h,h];rfl
 ·rw [bg h,eI];omega
theorem wj (X0 X2:List D) (b:List Int) (hb:du b) (hl:b.length≤1000) (k:Nat) (bad w:Bool) (rr mm:Int):ak Xh 33 [.ptr false 1 0] (zW X0 X2 b k bad w rr mm) (.aQ [aj (dz (aO b k) rr),aj (dw (aO b k) mm),ao (eJ b (dW b k))]) (zW X0 X2 b (dG b (dW b k)) (dL b (dW b k) (jO b k bad)) w rr mm++ [aA]):=by
 have h0:=dT hb k
 have h1:=dT hb (aP b k)
 have q:=LQ h0
 unfold dW jO
 by_cases hq:aO b k%8=4
 ·simp only [if_pos hq]
  rw [bT hq] at q
  cases h:cC b k bad with
  |true=>
   simp only [Bool.true_or]
   have hx:cC b (aP b k) true=true:=by simp [cC]
   rw [hx]
   exact ER X0 X2 b hb hl k bad w rr mm h0.1 h0.2 h q h1.1 h1.2 hx
  |false=>
   by_cases h2:aO b k<128
   ·have hx:cC b (aP b k) true=true:=by simp [cC]
    rw [bT h2]
    simp only [Bool.true_or,Bool.false_or]
    rw [hx]
    exact EM X0 X2 b hb hl k bad w rr mm h0.1 h0.2 h h2 q h1.1 h1.2 hx
   ·by_cases h3:192≤aO b k
    ·have hx:cC b (aP b k) true=true:=by simp [cC]
     rw [bT h3]
     simp only [Bool.true_or,Bool.or_true]
     rw [hx]
     exact EO X0 X2 b hb hl k bad w rr mm h0.1 h0.2 h (by omega) h3 q h1.1 h1.2 hx
    ·rw [bg h2,bg h3]
     simp only [YF]
     cases hx:cC b (aP b k) false with
     |true=>exact EJ X0 X2 b hb hl k bad w rr mm h0.1 h0.2 h (by omega) (by omega) q h1.1 h1.2 hx
     |false=>
      by_cases hn:aO b (aP b k)=36
      ·rw [bg (by simpa using hn)]
       exact EH X0 X2 b hb hl k bad w rr mm h0.1 h0.2 h (by omega) (by omega) q h1.1 h1.2 hx (by simpa using hn)
      ·rw [bT (by simpa using hn)]
       exact EI X0 X2 b hb hl k bad w rr mm h0.1 h0.2 h (by omega) (by omega) q h1.1 h1.2 hx (by simpa using hn)
 ·simp only [if_neg hq]
  rw [bg hq] at q
  cases h:cC b k bad with
  |true=>exact ES X0 X2 b hb hl k bad w rr mm h0.1 h0.2 h q
  |false=>
   by_cases h2:aO b k<128
   ·rw [bT h2];exact EN X0 X2 b hb hl k bad w rr mm h0.1 h0.2 h h2 q
   ·by_cases h3:192≤aO b k
    ·rw [bg h2,bT h3];exact EP X0 X2 b hb hl k bad w rr mm h0.1 h0.2 h (by omega) h3 q
    ·rw [bg h2,bg h3];exact EK X0 X2 b hb hl k bad w rr mm h0.1 h0.2 h (by omega) (by omega) q
theorem D4 (X0 X2:List D) (b:List Int) (hb:du b) (hl:b.length≤1000) (k:Nat) (bad w:Bool) (rr mm:Int) (n0:0≤aO b k) (n1:aO b k≤255) (hh:(aO b k==102)=false) (hq:¬(YO.i64.wrap ((Xf 64 (aO b k)&&&Xf 64 240).toNat:Int)=64)):ak Xh 32 ([.ptr false 1 0]) ([au X0,bR b ((k:Int)) bad w rr mm,au X2]) (.aQ [ao (aO b k),ax (aO b k==102)]) ([au X0,bR b ((aP b k:Nat)) (cC b k bad) w rr mm,au X2]):=by
 by_cases h0:YO.i64.wrap (↑(Xm (Xf (64:Nat) (aO b k)&&&Xf (64:Nat) 240)):Int)=64
 ·rcases cQ (cC b k bad) with h1|h1
  ·exact (ak.ai (aV:= [0,1,2]) (d:= .aQ [ao (aO b (aP b k)),ax (aO b k==102)]) (s':= [au X0,au [aZ 1 (bD b),ao (↑(aP b (aP b k)):Int),ax (cC b (aP b k) true),ax (YO.i64.wrap (↑(Xm (Xf (64:Nat) (aO b k)&&&Xf (64:Nat) 8)):Int) !=0),aj (YO.wrap YO.i8 (YO.i64.wrap (↑(Xm (Xf (64:Nat) (Xq (aO b k) 4)&&&Xf (64:Nat) 1)):Int))),aj (YO.wrap YO.i8 (YO.i64.wrap (↑(Xm (Xf (64:Nat) (aO b k)&&&Xf (64:Nat) 1)):Int)))],au X2]) mixed [.aD _ _ _ _ _ (@bL X0 X2 b hb hl k bad w rr mm),tC hh,tC (cP 64 true h0),tC (eF h1),tC (eF h1),tC (eF h1),tC h1,.aD _ _ _ _ _ (@bL X0 X2 b hb hl (aP b k) true (YO.i64.wrap (↑(Xm (Xf (64:Nat) (aO b k)&&&Xf (64:Nat) 8)):Int) !=0) (YO.wrap YO.i8 (YO.i64.wrap (↑(Xm (Xf (64:Nat) (Xq (aO b k) 4)&&&Xf (64:Nat) 1)):Int))) (YO.wrap YO.i8 (YO.i64.wrap (↑(Xm (Xf (64:Nat) (aO b k)&&&Xf (64:Nat) 1)):Int))))]).cast (by first|rfl|exact absurd h0 hq|exact absurd hq h0) (by first|rfl|exact absurd h0 hq|exact absurd hq h0)
  exact (ak.ai (aV:= [0,1,2]) (d:= .aQ [ao (aO b (aP b k)),ax (aO b k==102)]) (s':= [au X0,au [aZ 1 (bD b),ao (↑(aP b (aP b k)):Int),ax (cC b (aP b k) (YO.i64.wrap (↑(Xm (Xf (64:Nat) (aO b k)&&&Xf (64:Nat) 2)):Int) !=0)),ax (YO.i64.wrap (↑(Xm (Xf (64:Nat) (aO b k)&&&Xf (64:Nat) 8)):Int) !=0),aj (YO.wrap YO.i8 (YO.i64.wrap (↑(Xm (Xf (64:Nat) (Xq (aO b k) 4)&&&Xf (64:Nat) 1)):Int))),aj (YO.wrap YO.i8 (YO.i64.wrap (↑(Xm (Xf (64:Nat) (aO b k)&&&Xf (64:Nat) 1)):Int)))],au X2]) mixed [.aD _ _ _ _ _ (@bL X0 X2 b hb hl k bad w rr mm),tC hh,tC (cP 64 true h0),tC (eF h1),tC (eF h1),tC (eF h1),tC h1,.aD _ _ _ _ _ (@bL X0 X2 b hb hl (aP b k) (YO.i64.wrap (↑(Xm (Xf (64:Nat) (aO b k)&&&Xf (64:Nat) 2)):Int) !=0) (YO.i64.wrap (↑(Xm (Xf (64:Nat) (aO b k)&&&Xf (64:Nat) 8)):Int) !=0) (YO.wrap YO.i8 (YO.i64.wrap (↑(Xm (Xf (64:Nat) (Xq (aO b k) 4)&&&Xf (64:Nat) 1)):Int))) (YO.wrap YO.i8 (YO.i64.wrap (↑(Xm (Xf (64:Nat) (aO b k)&&&Xf (64:Nat) 1)):Int))))]).cast (by first|rfl|exact absurd h0 hq|exact absurd hq h0) (by first|rfl|exact absurd h0 hq|exact absurd hq h0)
 exact (ak.ai (aV:= [0,1,2]) (d:= .aQ [ao (aO b k),ax (aO b k==102)]) (s':= [au X0,bR b (↑(aP b k):Int) (cC b k bad) w rr mm,au X2]) mixed [.aD _ _ _ _ _ (@bL X0 X2 b hb hl k bad w rr mm),tC hh,tC (aH h0)]).cast (by first|rfl|exact absurd h0 hq|exact absurd hq h0) (by first|rfl|exact absurd h0 hq|exact absurd hq h0)
theorem Ae (X0 X2:List D) (b:List Int) (hb:du b) (hl:b.length≤1000) (k:Nat) (bad w:Bool) (rr mm:Int) (n0:0≤aO b k) (n1:aO b k≤255) (hh:(aO b k==102)=false) (hx:cC b k bad=false) (hq:YO.i64.wrap ((Xf 64 (aO b k)&&&Xf 64 240).toNat:Int)=64):ak Xh 32 ([.ptr false 1 0]) ([au X0,bR b ((k:Int)) bad w rr mm,au X2]) (.aQ [ao (aO b (aP b k)),ax (aO b k==102)]) ([au X0,au [aZ 1 (bD b),ao ((aP b (aP b k):Nat)),ax (cC b (aP b k) (YO.i64.wrap ((Xf 64 (aO b k)&&&Xf 64 2).toNat:Int) !=0)),ax (YO.i64.wrap ((Xf 64 (aO b k)&&&Xf 64 8).toNat:Int) !=0),aj (YO.i8.wrap (YO.i64.wrap ((Xf 64 (Xq (aO b k) 4)&&&Xf 64 1).toNat:Int))),aj (YO.i8.wrap (YO.i64.wrap ((Xf 64 (aO b k)&&&Xf 64 1).toNat:Int)))],au X2]):=by
 by_cases h0:YO.i64.wrap (↑(Xm (Xf (64:Nat) (aO b k)&&&Xf (64:Nat) 240)):Int)=64
 ·exact (ak.ai (aV:= [0,1,2]) (d:= .aQ [ao (aO b (aP b k)),ax (aO b k==102)]) (s':= [au X0,au [aZ 1 (bD b),ao (↑(aP b (aP b k)):Int),ax (cC b (aP b k) (YO.i64.wrap (↑(Xm (Xf (64:Nat) (aO b k)&&&Xf (64:Nat) 2)):Int) !=0)),ax (YO.i64.wrap (↑(Xm (Xf (64:Nat) (aO b k)&&&Xf (64:Nat) 8)):Int) !=0),aj (YO.wrap YO.i8 (YO.i64.wrap (↑(Xm (Xf (64:Nat) (Xq (aO b k) 4)&&&Xf (64:Nat) 1)):Int))),aj (YO.wrap YO.i8 (YO.i64.wrap (↑(Xm (Xf (64:Nat) (aO b k)&&&Xf (64:Nat) 1)):Int)))],au X2]) mixed [.aD _ _ _ _ _ (@bL X0 X2 b hb hl k bad w rr mm),tC hh,tC (cP 64 true h0),tC (eF hx),tC (eF hx),tC (eF hx),tC hx,.aD _ _ _ _ _ (@bL X0 X2 b hb hl (aP b k) (YO.i64.wrap (↑(Xm (Xf (64:Nat) (aO b k)&&&Xf (64:Nat) 2)):Int) !=0) (YO.i64.wrap (↑(Xm (Xf (64:Nat) (aO b k)&&&Xf (64:Nat) 8)):Int) !=0) (YO.wrap YO.i8 (YO.i64.wrap (↑(Xm (Xf (64:Nat) (Xq (aO b k) 4)&&&Xf (64:Nat) 1)):Int))) (YO.wrap YO.i8 (YO.i64.wrap (↑(Xm (Xf (64:Nat) (aO b k)&&&Xf (64:Nat) 1)):Int))))]).cast (by first|rfl|exact absurd h0 hq|exact absurd hq h0) (by first|rfl|exact absurd h0 hq|exact absurd hq h0)
 exact (ak.ai (aV:= [0,1,2]) (d:= .aQ [ao (aO b k),ax (aO b k==102)]) (s':= [au X0,bR b (↑(aP b k):Int) (cC b k bad) w rr mm,au X2]) mixed [.aD _ _ _ _ _ (@bL X0 X2 b hb hl k bad w rr mm),tC hh,tC (aH h0)]).cast (by first|rfl|exact absurd h0 hq|exact absurd hq h0) (by first|rfl|exact absurd h0 hq|exact absurd hq h0)
theorem Ad (X0 X2:List D) (b:List Int) (hb:du b) (hl:b.length≤1000) (k:Nat) (bad w:Bool) (rr mm:Int) (n0:0≤aO b k) (n1:aO b k≤255) (hh:(aO b k==102)=false) (hx:cC b k bad=true) (hq:YO.i64.wrap ((Xf 64 (aO b k)&&&Xf 64 240).toNat:Int)=64):ak Xh 32 ([.ptr false 1 0]) ([au X0,bR b ((k:Int)) bad w rr mm,au X2]) (.aQ [ao (aO b (aP b k)),ax (aO b k==102)]) ([au X0,au [aZ 1 (bD b),ao ((aP b (aP b k):Nat)),ax (cC b (aP b k) true),ax (YO.i64.wrap ((Xf 64 (aO b k)&&&Xf 64 8).toNat:Int) !=0),aj (YO.i8.wrap (YO.i64.wrap ((Xf 64 (Xq (aO b k) 4)&&&Xf 64 1).toNat:Int))),aj (YO.i8.wrap (YO.i64.wrap ((Xf 64 (aO b k)&&&Xf 64 1).toNat:Int)))],au X2]):=by
 by_cases h0:YO.i64.wrap (↑(Xm (Xf (64:Nat) (aO b k)&&&Xf (64:Nat) 240)):Int)=64
 ·exact (ak.ai (aV:= [0,1,2]) (d:= .aQ [ao (aO b (aP b k)),ax (aO b k==102)]) (s':= [au X0,au [aZ 1 (bD b),ao (↑(aP b (aP b k)):Int),ax (cC b (aP b k) true),ax (YO.i64.wrap (↑(Xm (Xf (64:Nat) (aO b k)&&&Xf (64:Nat) 8)):Int) !=0),aj (YO.wrap YO.i8 (YO.i64.wrap (↑(Xm (Xf (64:Nat) (Xq (aO b k) 4)&&&Xf (64:Nat) 1)):Int))),aj (YO.wrap YO.i8 (YO.i64.wrap (↑(Xm (Xf (64:Nat) (aO b k)&&&Xf (64:Nat) 1)):Int)))],au X2]) mixed [.aD _ _ _ _ _ (@bL X0 X2 b hb hl k bad w rr mm),tC hh,tC (cP 64 true h0),tC (eF hx),tC (eF hx),tC (eF hx),tC hx,.aD _ _ _ _ _ (@bL X0 X2 b hb hl (aP b k) true (YO.i64.wrap (↑(Xm (Xf (64:Nat) (aO b k)&&&Xf (64:Nat) 8)):Int) !=0) (YO.wrap YO.i8 (YO.i64.wrap (↑(Xm (Xf (64:Nat) (Xq (aO b k) 4)&&&Xf (64:Nat) 1)):Int))) (YO.wrap YO.i8 (YO.i64.wrap (↑(Xm (Xf (64:Nat) (aO b k)&&&Xf (64:Nat) 1)):Int))))]).cast (by first|rfl|exact absurd h0 hq|exact absurd hq h0) (by first|rfl|exact absurd h0 hq|exact absurd hq h0)
 exact (ak.ai (aV:= [0,1,2]) (d:= .aQ [ao (aO b k),ax (aO b k==102)]) (s':= [au X0,bR b (↑(aP b k):Int) (cC b k bad) w rr mm,au X2]) mixed [.aD _ _ _ _ _ (@bL X0 X2 b hb hl k bad w rr mm),tC hh,tC (aH h0)]).cast (by first|rfl|exact absurd h0 hq|exact absurd hq h0) (by first|rfl|exact absurd h0 hq|exact absurd hq h0)
theorem D3 (X0 X2:List D) (b:List Int) (hb:du b) (hl:b.length≤1000) (k:Nat) (bad w:Bool) (rr mm:Int) (n0:0≤aO b k) (n1:aO b k≤255) (hh:(aO b k==102)=true) (m0:0≤aO b (aP b k)) (m1:aO b (aP b k)≤255) (hq:¬(YO.i64.wrap ((Xf 64 (aO b (aP b k))&&&Xf 64 240).toNat:Int)=64)):ak Xh 32 ([.ptr false 1 0]) ([au X0,bR b ((k:Int)) bad w rr mm,au X2]) (.aQ [ao (aO b (aP b k)),ax (aO b k==102)]) ([au X0,bR b ((aP b (aP b k):Nat)) (cC b (aP b k) (cC b k bad)) w rr mm,au X2]):=by
 by_cases h0:YO.i64.wrap (↑(Xm (Xf (64:Nat) (aO b (aP b k))&&&Xf (64:Nat) 240)):Int)=64
 ·rcases cQ (cC b (aP b k) (cC b k bad)) with h1|h1
  ·exact (ak.ai (aV:= [0,1,2]) (d:= .aQ [ao (aO b (aP b (aP b k))),ax (aO b k==102)]) (s':= [au X0,au [aZ 1 (bD b),ao (↑(aP b (aP b (aP b k))):Int),ax (cC b (aP b (aP b k)) true),ax (YO.i64.wrap (↑(Xm (Xf (64:Nat) (aO b (aP b k))&&&Xf (64:Nat) 8)):Int) !=0),aj (YO.wrap YO.i8 (YO.i64.wrap (↑(Xm (Xf (64:Nat) (Xq (aO b (aP b k)) 4)&&&Xf (64:Nat) 1)):Int))),aj (YO.wrap YO.i8 (YO.i64.wrap (↑(Xm (Xf (64:Nat) (aO b (aP b k))&&&Xf (64:Nat) 1)):Int)))],au X2]) mixed [.aD _ _ _ _ _ (@bL X0 X2 b hb hl k bad w rr mm),tC (cP 102 true (eq_of_beq hh)),.aD _ _ _ _ _ (@bL X0 X2 b hb hl (aP b k) (cC b k bad) w rr mm),tC (cP 64 true h0),tC (eF h1),tC (eF h1),tC (eF h1),tC h1,.aD _ _ _ _ _ (@bL X0 X2 b hb hl (aP b (aP b k)) true (YO.i64.wrap (↑(Xm (Xf (64:Nat) (aO b (aP b k))&&&Xf (64:Nat) 8)):Int) !=0) (YO.wrap YO.i8 (YO.i64.wrap (↑(Xm (Xf (64:Nat) (Xq (aO b (aP b k)) 4)&&&Xf (64:Nat) 1)):Int))) (YO.wrap YO.i8 (YO.i64.wrap (↑(Xm (Xf (64:Nat) (aO b (aP b k))&&&Xf (64:Nat) 1)):Int))))]).cast (by first|rfl|exact absurd h0 hq|exact absurd hq h0) (by first|rfl|exact absurd h0 hq|exact absurd hq h0)
  exact (ak.ai (aV:= [0,1,2]) (d:= .aQ [ao (aO b (aP b (aP b k))),ax (aO b k==102)]) (s':= [au X0,au [aZ 1 (bD b),ao (↑(aP b (aP b (aP b k))):Int),ax (cC b (aP b (aP b k)) (YO.i64.wrap (↑(Xm (Xf (64:Nat) (aO b (aP b k))&&&Xf (64:Nat) 2)):Int) !=0)),ax (YO.i64.wrap (↑(Xm (Xf (64:Nat) (aO b (aP b k))&&&Xf (64:Nat) 8)):Int) !=0),aj (YO.wrap YO.i8 (YO.i64.wrap (↑(Xm (Xf (64:Nat) (Xq (aO b (aP b k)) 4)&&&Xf (64:Nat) 1)):Int))),aj (YO.wrap YO.i8 (YO.i64.wrap (↑(Xm (Xf (64:Nat) (aO b (aP b k))&&&Xf (64:Nat) 1)):Int)))],au X2]) mixed [.aD _ _ _ _ _ (@bL X0 X2 b hb hl k bad w rr mm),tC (cP 102 true (eq_of_beq hh)),.aD _ _ _ _ _ (@bL X0 X2 b hb hl (aP b k) (cC b k bad) w rr mm),tC (cP 64 true h0),tC (eF h1),tC (eF h1),tC (eF h1),tC h1,.aD _ _ _ _ _ (@bL X0 X2 b hb hl (aP b (aP b k)) (YO.i64.wrap (↑(Xm (Xf (64:Nat) (aO b (aP b k))&&&Xf (64:Nat) 2)):Int) !=0) (YO.i64.wrap (↑(Xm (Xf (64:Nat) (aO b (aP b k))&&&Xf (64:Nat) 8)):Int) !=0) (YO.wrap YO.i8 (YO.i64.wrap (↑(Xm (Xf (64:Nat) (Xq (aO b (aP b k)) 4)&&&Xf (64:Nat) 1)):Int))) (YO.wrap YO.i8 (YO.i64.wrap (↑(Xm (Xf (64:Nat) (aO b (aP b k))&&&Xf (64:Nat) 1)):Int))))]).cast (by first|rfl|exact absurd h0 hq|exact absurd hq h0) (by first|rfl|exact absurd h0 hq|exact absurd hq h0)
 exact (ak.ai (aV:= [0,1,2]) (d:= .aQ [ao (aO b (aP b k)),ax (aO b k==102)]) (s':= [au X0,bR b (↑(aP b (aP b k)):Int) (cC b (aP b k) (cC b k bad)) w rr mm,au X2]) mixed [.aD _ _ _ _ _ (@bL X0 X2 b hb hl k bad w rr mm),tC (cP 102 true (eq_of_beq hh)),.aD _ _ _ _ _ (@bL X0 X2 b hb hl (aP b k) (cC b k bad) w rr mm),tC (aH h0)]).cast (by first|rfl|exact absurd h0 hq|exact absurd hq h0) (by first|rfl|exact absurd h0 hq|exact absurd hq h0)
theorem Ac (X0 X2:List D) (b:List Int) (hb:du b) (hl:b.length≤1000) (k:Nat) (bad w:Bool) (rr mm:Int) (n0:0≤aO b k) (n1:aO b k≤255) (hh:(aO b k==102)=true) (m0:0≤aO b (aP b k)) (m1:aO b (aP b k)≤255) (hx:cC b (aP b k) (cC b k bad)=false) (hq:YO.i64.wrap ((Xf 64 (aO b (aP b k))&&&Xf 64 240).toNat:Int)=64):ak Xh 32 ([.ptr false 1 0]) ([au X0,bR b ((k:Int)) bad w rr mm,au X2]) (.aQ [ao (aO b (aP b (aP b k))),ax (aO b k==102)]) ([au X0,au [aZ 1 (bD b),ao ((aP b (aP b (aP b k)):Nat)),ax (cC b (aP b (aP b k)) (YO.i64.wrap ((Xf 64 (aO b (aP b k))&&&Xf 64 2).toNat:Int) !=0)),ax (YO.i64.wrap ((Xf 64 (aO b (aP b k))&&&Xf 64 8).toNat:Int) !=0),aj (YO.i8.wrap (YO.i64.wrap ((Xf 64 (Xq (aO b (aP b k)) 4)&&&Xf 64 1).toNat:Int))),aj (YO.i8.wrap (YO.i64.wrap ((Xf 64 (aO b (aP b k))&&&Xf 64 1).toNat:Int)))],au X2]):=by
 by_cases h0:YO.i64.wrap (↑(Xm (Xf (64:Nat) (aO b (aP b k))&&&Xf (64:Nat) 240)):Int)=64
 ·exact (ak.ai (aV:= [0,1,2]) (d:= .aQ [ao (aO b (aP b (aP b k))),ax (aO b k==102)]) (s':= [au X0,au [aZ 1 (bD b),ao (↑(aP b (aP b (aP b k))):Int),ax (cC b (aP b (aP b k)) (YO.i64.wrap (↑(Xm (Xf (64:Nat) (aO b (aP b k))&&&Xf (64:Nat) 2)):Int) !=0)),ax (YO.i64.wrap (↑(Xm (Xf (64:Nat) (aO b (aP b k))&&&Xf (64:Nat) 8)):Int) !=0),aj (YO.wrap YO.i8 (YO.i64.wrap (↑(Xm (Xf (64:Nat) (Xq (aO b (aP b k)) 4)&&&Xf (64:Nat) 1)):Int))),aj (YO.wrap YO.i8 (YO.i64.wrap (↑(Xm (Xf (64:Nat) (aO b (aP b k))&&&Xf (64:Nat) 1)):Int)))],au X2]) mixed [.aD _ _ _ _ _ (@bL X0 X2 b hb hl k bad w rr mm),tC (cP 102 true (eq_of_beq hh)),.aD _ _ _ _ _ (@bL X0 X2 b hb hl (aP b k) (cC b k bad) w rr mm),tC (cP 64 true h0),tC (eF hx),tC (eF hx),tC (eF hx),tC hx,.aD _ _ _ _ _ (@bL X0 X2 b hb hl (aP b (aP b k)) (YO.i64.wrap (↑(Xm (Xf (64:Nat) (aO b (aP b k))&&&Xf (64:Nat) 2)):Int) !=0) (YO.i64.wrap (↑(Xm (Xf (64:Nat) (aO b (aP b k))&&&Xf (64:Nat) 8)):Int) !=0) (YO.wrap YO.i8 (YO.i64.wrap (↑(Xm (Xf (64:Nat) (Xq (aO b (aP b k)) 4)&&&Xf (64:Nat) 1)):Int))) (YO.wrap YO.i8 (YO.i64.wrap (↑(Xm (Xf (64:Nat) (aO b (aP b k))&&&Xf (64:Nat) 1)):Int))))]).cast (by first|rfl|exact absurd h0 hq|exact absurd hq h0) (by first|rfl|exact absurd h0 hq|exact absurd hq h0)
 exact (ak.ai (aV:= [0,1,2]) (d:= .aQ [ao (aO b (aP b k)),ax (aO b k==102)]) (s':= [au X0,bR b (↑(aP b (aP b k)):Int) (cC b (aP b k) (cC b k bad)) w rr mm,au X2]) mixed [.aD _ _ _ _ _ (@bL X0 X2 b hb hl k bad w rr mm),tC (cP 102 true (eq_of_beq hh)),.aD _ _ _ _ _ (@bL X0 X2 b hb hl (aP b k) (cC b k bad) w rr mm),tC (aH h0)]).cast (by first|rfl|exact absurd h0 hq|exact absurd hq h0) (by first|rfl|exact absurd h0 hq|exact absurd hq h0)
theorem Ab (X0 X2:List D) (b:List Int) (hb:du b) (hl:b.length≤1000) (k:Nat) (bad w:Bool) (rr mm:Int) (n0:0≤aO b k) (n1:aO b k≤255) (hh:(aO b k==102)=true) (m0:0≤aO b (aP b k)) (m1:aO b (aP b k)≤255) (hx:cC b (aP b k) (cC b k bad)=true) (hq:YO.i64.wrap ((Xf 64 (aO b (aP b k))&&&Xf 64 240).toNat:Int)=64):ak Xh 32 ([.ptr false 1 0]) ([au X0,bR b ((k:Int)) bad w rr mm,au X2]) (.aQ [ao (aO b (aP b (aP b k))),ax (aO b k==102)]) ([au X0,au [aZ 1 (bD b),ao ((aP b (aP b (aP b k)):Nat)),ax (cC b (aP b (aP b k)) true),ax (YO.i64.wrap ((Xf 64 (aO b (aP b k))&&&Xf 64 8).toNat:Int) !=0),aj (YO.i8.wrap (YO.i64.wrap ((Xf 64 (Xq (aO b (aP b k)) 4)&&&Xf 64 1).toNat:Int))),aj (YO.i8.wrap (YO.i64.wrap ((Xf 64 (aO b (aP b k))&&&Xf 64 1).toNat:Int)))],au X2]):=by
 by_cases h0:YO.i64.wrap (↑(Xm (Xf (64:Nat) (aO b (aP b k))&&&Xf (64:Nat) 240)):Int)=64
 ·exact (ak.ai (aV:= [0,1,2]) (d:= .aQ [ao (aO b (aP b (aP b k))),ax (aO b k==102)]) (s':= [au X0,au [aZ 1 (bD b),ao (↑(aP b (aP b (aP b k))):Int),ax (cC b (aP b (aP b k)) true),ax (YO.i64.wrap (↑(Xm (Xf (64:Nat) (aO b (aP b k))&&&Xf (64:Nat) 8)):Int) !=0),aj (YO.wrap YO.i8 (YO.i64.wrap (↑(Xm (Xf (64:Nat) (Xq (aO b (aP b k)) 4)&&&Xf (64:Nat) 1)):Int))),aj (YO.wrap YO.i8 (YO.i64.wrap (↑(Xm (Xf (64:Nat) (aO b (aP b k))&&&Xf (64:Nat) 1)):Int)))],au X2]) mixed [.aD _ _ _ _ _ (@bL X0 X2 b hb hl k bad w rr mm),tC (cP 102 true (eq_of_beq hh)),.aD _ _ _ _ _ (@bL X0 X2 b hb hl (aP b k) (cC b k bad) w rr mm),tC (cP 64 true h0),tC (eF hx),tC (eF hx),tC (eF hx),tC hx,.aD _ _ _ _ _ (@bL X0 X2 b hb hl (aP b (aP b k)) true (YO.i64.wrap (↑(Xm (Xf (64:Nat) (aO b (aP b k))&&&Xf (64:Nat) 8)):Int) !=0) (YO.wrap YO.i8 (YO.i64.wrap (↑(Xm (Xf (64:Nat) (Xq (aO b (aP b k)) 4)&&&Xf (64:Nat) 1)):Int))) (YO.wrap YO.i8 (YO.i64.wrap (↑(Xm (Xf (64:Nat) (aO b (aP b k))&&&Xf (64:Nat) 1)):Int))))]).cast (by first|rfl|exact absurd h0 hq|exact absurd hq h0) (by first|rfl|exact absurd h0 hq|exact absurd hq h0)
 exact (ak.ai (aV:= [0,1,2]) (d:= .aQ [ao (aO b (aP b k)),ax (aO b k==102)]) (s':= [au X0,bR b (↑(aP b (aP b k)):Int) (cC b (aP b k) (cC b k bad)) w rr mm,au X2]) mixed [.aD _ _ _ _ _ (@bL X0 X2 b hb hl k bad w rr mm),tC (cP 102 true (eq_of_beq hh)),.aD _ _ _ _ _ (@bL X0 X2 b hb hl (aP b k) (cC b k bad) w rr mm),tC (aH h0)]).cast (by first|rfl|exact absurd h0 hq|exact absurd hq h0) (by first|rfl|exact absurd h0 hq|exact absurd hq h0)
theorem D2 (X0 X2:List D) (b:List Int) (hb:du b) (hl:b.length≤1000) (k:Nat) (bad:Bool):ak Xh 32 [.ptr false 1 0] (zW X0 X2 b k bad false 0 0) (.aQ [ao (Gz b k),ax (aO b k==102)]) (zW X0 X2 b (Cv b k) (KB b k bad) (ku b k) (HM b k) (HO b k)):=by
 have h0:=dT hb k
 have h1:=dT hb (aP b k)
 have b0:=uk h0
 have b1:=uk h1
 unfold Gz Cv KB ku HM HO HN vV sT Ct
 by_cases hh:aO b k=102
 ·simp only [if_pos hh]
  by_cases hq:aO b (aP b k) / 16%16=4
  ·simp only [bT hq,if_true,Bool.true_and]
   cases hx:cC b (aP b k) (cC b k bad) with
   |true=>
    have:=Ab X0 X2 b hb hl k bad false 0 0 h0.1 h0.2 (by simpa using hh) h1.1 h1.2 hx (b1.1.2 hq)
    rw [b1.2.1,b1.2.2.2.1,b1.2.2.2.2] at this
    rw [Bool.true_or]
    exact this
   |false=>
    have:=Ac X0 X2 b hb hl k bad false 0 0 h0.1 h0.2 (by simpa using hh) h1.1 h1.2 hx (b1.1.2 hq)
    rw [b1.2.1,b1.2.2.1,b1.2.2.2.1,b1.2.2.2.2] at this
    rw [Bool.false_or]
    exact this
  ·simp only [bg hq,Yb,if_false,Bool.false_and]
   exact D3 X0 X2 b hb hl k bad false 0 0 h0.1 h0.2 (by simpa using hh) h1.1 h1.2 (fun h=>hq (b1.1.1 h))
 ·simp only [if_neg hh]
  by_cases hq:aO b k / 16%16=4
  ·simp only [bT hq,if_true,Bool.true_and]
   cases hx:cC b k bad with
   |true=>
    have:=Ad X0 X2 b hb hl k bad false 0 0 h0.1 h0.2 (by simpa using hh) hx (b0.1.2 hq)
    rw [b0.2.1,b0.2.2.2.1,b0.2.2.2.2] at this
    rw [Bool.true_or]
    exact this
   |false=>
    have:=Ae X0 X2 b hb hl k bad false 0 0 h0.1 h0.2 (by simpa using hh) hx (b0.1.2 hq)
    rw [b0.2.1,b0.2.2.1,b0.2.2.2.1,b0.2.2.2.2] at this
    rw [Bool.false_or]
    exact this
  ·simp only [bg hq,Yb,if_false,Bool.false_and]
   exact D4 X0 X2 b hb hl k bad false 0 0 h0.1 h0.2 (by simpa using hh) (fun h=>hq (b0.1.1 h))
theorem F4 (X0 X2 X3 X4:List D) (b:List Int) (k:Nat) (bad w:Bool) (rr mm:Int) (l1:((bD b).length:Int)≤1000) (h:(k:Int)<((bD b).length:Int)) (v:Int) (hv:(bD b)[Xi (YO.i64.wrap (YO.i64.wrap ((k:Int)+1) - 1))]? =some (av v)):ak Xh 38 ([.ptr false 1 0]) ([au X0,au [aZ 1 (bD b),ao ((k:Int)),ax bad,ax w,aj rr,aj mm],au X2,au X3,au X4]) (ao (YO.i64.wrap v)) ([au X0,au [aZ 1 (bD b),ao (YO.i64.wrap ((k:Int)+1)),ax bad,ax w,aj rr,aj mm],au X2,au X3,au X4]):=(ak.ai (aV:= [0,1,2,3,4]) (d:= .int .i64 (YO.wrap YO.i64 v)) (s':= [au X0,au [aZ 1 (bD b),ao (YO.i64.wrap ((↑k:Int)+(1:Int))),ax bad,ax w,aj rr,aj mm],au X2,au X3,au X4]) mixed [tC (by ((try simp only [aK,dJ,bF,aU,dt,bP,cq,ck,gu,eI,bne_eq_false_iff_eq,X8,Yk,Xp,XM] at*);(try unfold cV at*);omega):(decide ((↑k:Int)≥(↑(List.length (bD b)):Int)))=false),.dP (decide ((0:Int)≤YO.i64.wrap (YO.i64.wrap ((↑k:Int)+(1:Int)) - (1:Int)))) true (by ((try simp only [aK,dJ,bF,aU,dt,bP,cq,ck,gu,eI,bne_eq_false_iff_eq,X8,Yk,Xp,XM] at*);(try unfold cV at*);omega)),.get _ _ _ hv]).cast (by rfl) (by rfl)
theorem Ba (X0 X2 X3 X4:List D) (b:List Int) (k:Nat) (bad w:Bool) (rr mm:Int) (l1:((bD b).length:Int)≤1000) (h:((bD b).length:Int)≤(k:Int)):ak Xh 38 ([.ptr false 1 0]) ([au X0,au [aZ 1 (bD b),ao ((k:Int)),ax bad,ax w,aj rr,aj mm],au X2,au X3,au X4]) (ao 0) ([au X0,au [aZ 1 (bD b),ao ((k:Int)),ax true,ax w,aj rr,aj mm],au X2,au X3,au X4]):=(ak.ai (aV:= [0,1,2,3,4]) (d:= .int .i64 0) (s':= [au X0,au [aZ 1 (bD b),ao (↑k:Int),ax true,ax w,aj rr,aj mm],au X2,au X3,au X4]) mixed [tC (by ((try simp only [aK,dJ,bF,aU,dt,bP,cq,ck,gu,eI,bne_eq_false_iff_eq,X8,Yk,Xp,XM] at*);(try unfold cV at*);omega):(decide ((↑k:Int)≥(↑(List.length (bD b)):Int)))=true)]).cast (by rfl) (by rfl)
abbrev JR (X0 X2 X3 X4:List D) (b:List Int) (k:Nat) (bad w:Bool) (rr mm:Int):List Ob:= [au X0,au [aZ 1 (bD b),ao (k:Int),ax bad,ax w,aj rr,aj mm],au X2,au X3,au X4]
theorem cf (X0 X2 X3 X4:List D) (b:List Int) (hb:du b) (hl:b.length≤1000) (k:Nat) (bad w:Bool) (rr mm:Int):ak Xh 38 [.ptr false 1 0] (JR X0 X2 X3 X4 b k bad w rr mm) (ao (aO b k)) (JR X0 X2 X3 X4 b (aP b k) (cC b k bad) w rr mm):=by
 have l1:((bD b).length:Int)≤1000:=by rw [aK];omega
 by_cases h:k<b.length
 ·have hw:YO.i64.wrap ((k:Int)+1)=((k+1:Nat):Int):=by rw [aU];omega
  have St:YO.i64.wrap (YO.i64.wrap ((k:Int)+1) - 1)=(k:Int):=by rw [hw,aU];omega
  have hv:(bD b)[Xi (YO.i64.wrap (YO.i64.wrap ((k:Int)+1) - 1))]? =some (av (aO b k)):=by
   rw [St,Int.toNat_natCast]
   unfold aO bD
   simp [h,List.getD_eq_getElem?_getD]
  have:=F4 X0 X2 X3 X4 b k bad w rr mm l1 (by rw [aK];omega) (aO b k) hv
  have hr:=dT hb k
  have e:YO.i64.wrap (aO b k)=aO b k:=by rw [aU];omega
  have e1:aP b k=k+1:=by unfold aP;rw [if_pos h]
  have e2:cC b k bad=bad:=by unfold cC;rw [bg (by omega),YF]
  rw [hw,e] at this
  rw [e1,e2]
  exact this
 ·have:=Ba X0 X2 X3 X4 b k bad w rr mm l1 (by rw [aK];omega)
  have e0:aO b k=0:=by unfold aO;rw [List.getD_eq_getElem?_getD,List.getElem?_eq_none (by omega)];rfl
  have e1:aP b k=k:=by unfold aP;rw [if_neg h]
  have e2:cC b k bad=true:=by unfold cC;rw [bT (by omega),Bool.or_true]
  rw [e0,e1,e2]
  exact this
theorem Jj (X0 X2 X3 X4:List D) (b:List Int) (hb:du b) (hl:b.length≤1000) (k:Nat) (bad w:Bool) (rr mm:Int) (u:Int) (hs:aY Xh 59 [aB (YO.u64.wrap (0+YO.u64.wrap (YO.u64.wrap (aO b (k))*1))),aj 8] (aB u)):ak Xh 37 ([.ptr false 1 0,ao 1]) ([au X0,au [aZ 1 (bD b),ao ((k:Int)),ax (bad),ax w,aj rr,aj mm],au X2,au X3,au X4]) (ao (YO.i64.wrap u)) ([au X0,au [aZ 1 (bD b),ao ((aP b (k):Nat)),ax (cC b (k) (bad)),ax w,aj rr,aj mm],au X2,au X3,au X4,aA]):=(ak.ai (aV:= [0,1,2,3,4]) (d:= .int .i64 (YO.wrap YO.i64 u)) (s':= [au X0,au [aZ 1 (bD b),ao (↑(aP b k):Int),ax (cC b k bad),ax w,aj rr,aj mm],au X2,au X3,au X4,aA]) mixed [.go 64,tT,.aD _ _ _ _ _ (@cf (X0) (X2) (X3) (X4) (b) hb hl (k) (bad) (w) (rr) (mm)),tT,tF,aw hs]).cast (by rfl) (by rfl)
theorem Ji (X0 X2 X3 X4:List D) (b:List Int) (hb:du b) (hl:b.length≤1000) (k:Nat) (bad w:Bool) (rr mm:Int) (u:Int) (hs:aY Xh 59 [aB (YO.u64.wrap (YO.u64.wrap (YO.u64.wrap (YO.u64.wrap (0+YO.u64.wrap (YO.u64.wrap (aO b (k))*1))+YO.u64.wrap (YO.u64.wrap (aO b (aP b (k)))*256))+YO.u64.wrap (YO.u64.wrap (aO b (aP b (aP b (k))))*65536))+YO.u64.wrap (YO.u64.wrap (aO b (aP b (aP b (aP b (k)))))*16777216))),aj 32] (aB u)):ak Xh 37 ([.ptr false 1 0,ao 4]) ([au X0,au [aZ 1 (bD b),ao ((k:Int)),ax (bad),ax w,aj rr,aj mm],au X2,au X3,au X4]) (ao (YO.i64.wrap u)) ([au X0,au [aZ 1 (bD b),ao ((aP b (aP b (aP b (aP b (k)))):Nat)),ax (cC b (aP b (aP b (aP b (k)))) (cC b (aP b (aP b (k))) (cC b (aP b (k)) (cC b (k) (bad))))),ax w,aj rr,aj mm],au X2,au X3,au X4,aA]):=(ak.ai (aV:= [0,1,2,3,4]) (d:= .int .i64 (YO.wrap YO.i64 u)) (s':= [au X0,au [aZ 1 (bD b),ao (↑(aP b (aP b (aP b (aP b k)))):Int),ax (cC b (aP b (aP b (aP b k))) (cC b (aP b (aP b k)) (cC b (aP b k) (cC b k bad)))),ax w,aj rr,aj mm],au X2,au X3,au X4,aA]) mixed [.go 64,tT,.aD _ _ _ _ _ (@cf (X0) (X2) (X3) (X4) (b) hb hl (k) (bad) (w) (rr) (mm)),tT,tT,.aD _ _ _ _ _ (@cf (X0) (X2) (X3) (X4) (b) hb hl (aP b k) (cC b k bad) (w) (rr) (mm)),tT,tT,.aD _ _ _ _ _ (@cf (X0) (X2) (X3) (X4) (b) hb hl (aP b (aP b k)) (cC b (aP b k) (cC b k bad)) (w) (rr) (mm)),tT,tT,.aD _ _ _ _ _ (@cf (X0) (X2) (X3) (X4) (b) hb hl (aP b (aP b (aP b k))) (cC b (aP b (aP b k)) (cC b (aP b k) (cC b k bad))) (w) (rr) (mm)),tT,tF,aw hs]).cast (by rfl) (by rfl)
theorem dI (X0 X2 X3 X4:List D) (b:List Int) (hb:du b) (hl:b.length≤1000) (k:Nat) (bad w:Bool) (rr mm:Int):ak Xh 37 [.ptr false 1 0,ao 4] (JR X0 X2 X3 X4 b k bad w rr mm) (ao (eJ b k)) (JR X0 X2 X3 X4 b (dG b k) (dL b k bad) w rr mm++ [aA]):=by
 have h0:=dT hb k
 have h1:=dT hb (aP b k)
 have h2:=dT hb (aP b (aP b k))
 have h3:=dT hb (aP b (aP b (aP b k)))
 have e:=Ma h0 h1 h2 h3
 have:=Ji X0 X2 X3 X4 b hb hl k bad w rr mm (fF (aO b k+256*aO b (aP b k)+65536*aO b (aP b (aP b k))+16777216*aO b (aP b (aP b (aP b k)))) 32) (by rw [e];exact l4 _)
 rw [G7 (by omega)] at this
 exact this
theorem yX (X0 X2 X3 X4:List D) (b:List Int) (hb:du b) (hl:b.length≤1000) (k:Nat) (bad w:Bool) (rr mm:Int):ak Xh 37 [.ptr false 1 0,ao 1] (JR X0 X2 X3 X4 b k bad w rr mm) (ao (x8 b k)) (JR X0 X2 X3 X4 b (aP b k) (cC b k bad) w rr mm++ [aA]):=by
 have h0:=dT hb k
 have e:YO.u64.wrap (0+YO.u64.wrap (YO.u64.wrap (aO b k)*1))=aO b k:=by simp only [dt];omega
 have:=Jj X0 X2 X3 X4 b hb hl k bad w rr mm (fF (aO b k) 8) (by rw [e];exact qS _)
 rw [NJ h0] at this
 exact this
theorem FY (X0 X2 X3 X4:List D) (b:List Int) (hb:du b) (hl:b.length≤1000) (k:Nat) (bad w:Bool) (rr mm:Int) (n0:0≤aO b k) (n1:aO b k≤255) (h:cC b k bad=true):ak Xh 34 ([.ptr false 1 0]) ([au X0,bR b ((k:Int)) (bad) w rr mm,au X2,au X3,au X4]) (.aQ [aj (dz (aO b k) rr),aj (dw (aO b k) mm)]) ([au X0,bR b ((aP b k:Nat)) (true) w rr mm,au X2,au X3,au X4]):=ak.ai (aV:= [0,1,2,3,4]) mixed [.aD _ _ _ _ _ (@cf (X0) (X2) (X3) (X4) (b) hb hl (k) (bad) (w) (rr) (mm)),tC (eF h),tC (eF h),tC h] (by kernel_rfl)
theorem FX (X0 X2 X3 X4:List D) (b:List Int) (hb:du b) (hl:b.length≤1000) (k:Nat) (bad w:Bool) (rr mm:Int) (n0:0≤aO b k) (n1:aO b k≤255) (h:cC b k bad=false) (h2:aO b k<192):ak Xh 34 ([.ptr false 1 0]) ([au X0,bR b ((k:Int)) (bad) w rr mm,au X2,au X3,au X4]) (.aQ [aj (dz (aO b k) rr),aj (dw (aO b k) mm)]) ([au X0,bR b ((aP b k:Nat)) (true) w rr mm,au X2,au X3,au X4]):=(ak.ai (aV:= [0,1,2,3,4]) (s':= [au X0,bR b (↑(aP b k):Int) (decide (aO b k<(192:Int))) w rr mm,au X2,au X3,au X4]) mixed [.aD _ _ _ _ _ (@cf (X0) (X2) (X3) (X4) (b) hb hl (k) (bad) (w) (rr) (mm)),tC (eF h),tC (eF h),tC h]).cast rfl (by (simp;omega))
theorem FV (X0 X2 X3 X4:List D) (b:List Int) (hb:du b) (hl:b.length≤1000) (k:Nat) (bad w:Bool) (rr mm:Int) (n0:0≤aO b k) (n1:aO b k≤255) (h:cC b k bad=false) (h2:192≤aO b k):ak Xh 34 ([.ptr false 1 0]) ([au X0,bR b ((k:Int)) (bad) w rr mm,au X2,au X3,au X4]) (.aQ [aj (dz (aO b k) rr),aj (dw (aO b k) mm)]) ([au X0,bR b ((aP b k:Nat)) (false) w rr mm,au X2,au X3,au X4]):=(ak.ai (aV:= [0,1,2,3,4]) (s':= [au X0,bR b (↑(aP b k):Int) (decide (aO b k<(192:Int))) w rr mm,au X2,au X3,au X4]) mixed [.aD _ _ _ _ _ (@cf (X0) (X2) (X3) (X4) (b) hb hl (k) (bad) (w) (rr) (mm)),tC (eF h),tC (eF h),tC h]).cast rfl (by (simp;omega))
theorem Bk (X0 X2 X3 X4:List D) (b:List Int) (hb:du b) (hl:b.length≤1000) (k:Nat) (bad w:Bool) (rr mm:Int) (n0:0≤aO b k) (n1:aO b k≤255) (h:cC b k bad=true) (hq:(YO.i64.wrap ((Xf 64 (aO b k)&&&Xf 64 7).toNat:Int)==4)=false):ak Xh 33 ([.ptr false 1 0]) ([au X0,bR b ((k:Int)) (bad) w rr mm,au X2,au X3,au X4]) (.aQ [aj (dz (aO b k) rr),aj (dw (aO b k) mm),ao (eJ b (aP b k))]) ([au X0,bR b ((dG b (aP b k):Nat)) (dL b (aP b k) true) w rr mm,au X2,au X3,au X4,aA]):=by
 by_cases h0:YO.i64.wrap (↑(Xm (Xf (64:Nat) (aO b k)&&&Xf (64:Nat) (7:Int))):Int)=4
 ·exfalso;simp only [ck,eI,ne_eq] at hq;first|exact hq h0|exact h0 hq|(rw [bT (by omega),hx] at h1;cases h1)|(rw [bg (by omega),hx] at h1;cases h1)
 ·exact ak.ai (aV:= [0,1,2,3,4]) mixed [.aD _ _ _ _ _ (@cf (X0) (X2) (X3) (X4) (b) hb hl (k) (bad) (w) (rr) (mm)),tC (eF h),tC (eF h),tC h,tF,tF,tT,tC (aH h0),.aD _ _ _ _ _ (@dI (X0) (X2) (X3) (X4) (b) hb hl (aP b k) (true) (w) (rr) (mm)),.fL [(1,0,aZ 1 (bD b)),(1,3,ax w),(1,4,aj rr),(1,5,aj mm)] [(0,au X0),(2,au X2),(3,au X3),(4,au X4)]] (by kernel_rfl)
theorem Bj (X0 X2 X3 X4:List D) (b:List Int) (hb:du b) (hl:b.length≤1000) (k:Nat) (bad w:Bool) (rr mm:Int) (n0:0≤aO b k) (n1:aO b k≤255) (h:cC b k bad=true) (hq:(YO.i64.wrap ((Xf 64 (aO b k)&&&Xf 64 7).toNat:Int)==4)=true) (m0:0≤aO b (aP b k)) (m1:aO b (aP b k)≤255) (hx:cC b (aP b k) true=true):ak Xh 33 ([.ptr false 1 0]) ([au X0,bR b ((k:Int)) (bad) w rr mm,au X2,au X3,au X4]) (.aQ [aj (dz (aO b k) rr),aj (dw (aO b k) mm),ao (eJ b (aP b (aP b k)))]) ([au X0,au [aZ 1 (bD b),ao ((dG b (aP b (aP b k)):Nat)),ax (dL b (aP b (aP b k)) true),ax w,aj rr,aj mm],au X2,au X3,au X4,aA]):=by
 by_cases h0:YO.i64.wrap (↑(Xm (Xf (64:Nat) (aO b k)&&&Xf (64:Nat) (7:Int))):Int)=4
 ·exact ak.ai (aV:= [0,1,2,3,4]) mixed [.aD _ _ _ _ _ (@cf (X0) (X2) (X3) (X4) (b) hb hl (k) (bad) (w) (rr) (mm)),tC (eF h),tC (eF h),tC h,tF,tF,tT,tC (cP 4 true h0),.aD _ _ _ _ _ (@cf (X0) (X2) (X3) (X4) (b) hb hl (aP b k) (true) (w) (rr) (mm)),tF,tF,tT,.aD _ _ _ _ _ (@dI (X0) (X2) (X3) (X4) (b) hb hl (aP b (aP b k)) (true) (w) (rr) (mm)),.fL [(1,0,aZ 1 (bD b)),(1,3,ax w),(1,4,aj rr),(1,5,aj mm)] [(0,au X0),(2,au X2),(3,au X3),(4,au X4)]] (by kernel_rfl)
 ·exfalso;simp only [ck,eI,ne_eq] at hq;first|exact hq h0|exact h0 hq|(rw [bT (by omega),hx] at h1;cases h1)|(rw [bg (by omega),hx] at h1;cases h1)
theorem Bg (X0 X2 X3 X4:List D) (b:List Int) (hb:du b) (hl:b.length≤1000) (k:Nat) (bad w:Bool) (rr mm:Int) (n0:0≤aO b k) (n1:aO b k≤255) (h:cC b k bad=false) (h2:aO b k<128) (hq:(YO.i64.wrap ((Xf 64 (aO b k)&&&Xf 64 7).toNat:Int)==4)=false):ak Xh 33 ([.ptr false 1 0]) ([au X0,bR b ((k:Int)) (bad) w rr mm,au X2,au X3,au X4]) (.aQ [aj (dz (aO b k) rr),aj (dw (aO b k) mm),ao (eJ b (aP b k))]) ([au X0,bR b ((dG b (aP b k):Nat)) (dL b (aP b k) true) w rr mm,au X2,au X3,au X4,aA]):=by
 by_cases h0:YO.i64.wrap (↑(Xm (Xf (64:Nat) (aO b k)&&&Xf (64:Nat) (7:Int))):Int)=4
 ·exfalso;simp only [ck,eI,ne_eq] at hq;first|exact hq h0|exact h0 hq|(rw [bT (by omega),hx] at h1;cases h1)|(rw [bg (by omega),hx] at h1;cases h1)
 ·exact ak.ai (aV:= [0,1,2,3,4]) mixed [.aD _ _ _ _ _ (@cf (X0) (X2) (X3) (X4) (b) hb hl (k) (bad) (w) (rr) (mm)),tC (eF h),tC (eF h),tC h,tC (eF (bT h2)),tC (eF (bT h2)),tC (bT h2),tC (aH h0),.aD _ _ _ _ _ (@dI (X0) (X2) (X3) (X4) (b) hb hl (aP b k) (true) (w) (rr) (mm)),.fL [(1,0,aZ 1 (bD b)),(1,3,ax w),(1,4,aj rr),(1,5,aj mm)] [(0,au X0),(2,au X2),(3,au X3),(4,au X4)]] (by kernel_rfl)
theorem Bf (X0 X2 X3 X4:List D) (b:List Int) (hb:du b) (hl:b.length≤1000) (k:Nat) (bad w:Bool) (rr mm:Int) (n0:0≤aO b k) (n1:aO b k≤255) (h:cC b k bad=false) (h2:aO b k<128) (hq:(YO.i64.wrap ((Xf 64 (aO b k)&&&Xf 64 7).toNat:Int)==4)=true) (m0:0≤aO b (aP b k)) (m1:aO b (aP b k)≤255) (hx:cC b (aP b k) true=true):ak Xh 33 ([.ptr false 1 0]) ([au X0,bR b ((k:Int)) (bad) w rr mm,au X2,au X3,au X4]) (.aQ [aj (dz (aO b k) rr),aj (dw (aO b k) mm),ao (eJ b (aP b (aP b k)))]) ([au X0,au [aZ 1 (bD b),ao ((dG b (aP b (aP b k)):Nat)),ax (dL b (aP b (aP b k)) true),ax w,aj rr,aj mm],au X2,au X3,au X4,aA]):=by
 by_cases h0:YO.i64.wrap (↑(Xm (Xf (64:Nat) (aO b k)&&&Xf (64:Nat) (7:Int))):Int)=4
 ·exact ak.ai (aV:= [0,1,2,3,4]) mixed [.aD _ _ _ _ _ (@cf (X0) (X2) (X3) (X4) (b) hb hl (k) (bad) (w) (rr) (mm)),tC (eF h),tC (eF h),tC h,tC (eF (bT h2)),tC (eF (bT h2)),tC (bT h2),tC (cP 4 true h0),.aD _ _ _ _ _ (@cf (X0) (X2) (X3) (X4) (b) hb hl (aP b k) (true) (w) (rr) (mm)),tF,tF,tT,.aD _ _ _ _ _ (@dI (X0) (X2) (X3) (X4) (b) hb hl (aP b (aP b k)) (true) (w) (rr) (mm)),.fL [(1,0,aZ 1 (bD b)),(1,3,ax w),(1,4,aj rr),(1,5,aj mm)] [(0,au X0),(2,au X2),(3,au X3),(4,au X4)]] (by kernel_rfl)
 ·exfalso;simp only [ck,eI,ne_eq] at hq;first|exact hq h0|exact h0 hq|(rw [bT (by omega),hx] at h1;cases h1)|(rw [bg (by omega),hx] at h1;cases h1)
theorem Bi (X0 X2 X3 X4:List D) (b:List Int) (hb:du b) (hl:b.length≤1000) (k:Nat) (bad w:Bool) (rr mm:Int) (n0:0≤aO b k) (n1:aO b k≤255) (h:cC b k bad=false) (h3:128≤aO b k) (h2:192≤aO b k) (hq:(YO.i64.wrap ((Xf 64 (aO b k)&&&Xf 64 7).toNat:Int)==4)=false):ak Xh 33 ([.ptr false 1 0]) ([au X0,bR b ((k:Int)) (bad) w rr mm,au X2,au X3,au X4]) (.aQ [aj (dz (aO b k) rr),aj (dw (aO b k) mm),ao (eJ b (aP b k))]) ([au X0,bR b ((dG b (aP b k):Nat)) (dL b (aP b k) true) w rr mm,au X2,au X3,au X4,aA]):=by
 by_cases h0:YO.i64.wrap (↑(Xm (Xf (64:Nat) (aO b k)&&&Xf (64:Nat) (7:Int))):Int)=4
 ·rcases XB (cC b (aP b k) (decide (aO b k≥(192:Int)))) with h1|h1
  ·exfalso;simp only [ck,eI,ne_eq] at hq;first|exact hq h0|exact h0 hq|(rw [bT (by omega),hx] at h1;cases h1)|(rw [bg (by omega),hx] at h1;cases h1)
  ·exfalso;simp only [ck,eI,ne_eq] at hq;first|exact hq h0|exact h0 hq|(rw [bT (by omega),hx] at h1;cases h1)|(rw [bg (by omega),hx] at h1;cases h1)
 ·exact (ak.ai (aV:= [0,1,2,3,4]) (s':= [au X0,au [aZ 1 (bD b),ao (↑(dG b (aP b k)):Int),ax (dL b (aP b k) (decide (aO b k≥(192:Int)))),ax w,aj rr,aj mm],au X2,au X3,au X4,aA]) mixed [.aD _ _ _ _ _ (@cf (X0) (X2) (X3) (X4) (b) hb hl (k) (bad) (w) (rr) (mm)),tC (eF h),tC (eF h),tC h,tC (eF (bg (Xk.2 h3))),tC (eF (bg (Xk.2 h3))),tC (bg (Xk.2 h3)),tC (aH h0),.aD _ _ _ _ _ (@dI (X0) (X2) (X3) (X4) (b) hb hl (aP b k) (decide (aO b k≥(192:Int))) (w) (rr) (mm)),.fL [(1,0,aZ 1 (bD b)),(1,3,ax w),(1,4,aj rr),(1,5,aj mm)] [(0,au X0),(2,au X2),(3,au X3),(4,au X4)]]).cast rfl (by (simp only [bT h2];done))
theorem Bh (X0 X2 X3 X4:List D) (b:List Int) (hb:du b) (hl:b.length≤1000) (k:Nat) (bad w:Bool) (rr mm:Int) (n0:0≤aO b k) (n1:aO b k≤255) (h:cC b k bad=false) (h3:128≤aO b k) (h2:192≤aO b k) (hq:(YO.i64.wrap ((Xf 64 (aO b k)&&&Xf 64 7).toNat:Int)==4)=true) (m0:0≤aO b (aP b k)) (m1:aO b (aP b k)≤255) (hx:cC b (aP b k) true=true):ak Xh 33 ([.ptr false 1 0]) ([au X0,bR b ((k:Int)) (bad) w rr mm,au X2,au X3,au X4]) (.aQ [aj (dz (aO b k) rr),aj (dw (aO b k) mm),ao (eJ b (aP b (aP b k)))]) ([au X0,au [aZ 1 (bD b),ao ((dG b (aP b (aP b k)):Nat)),ax (dL b (aP b (aP b k)) true),ax w,aj rr,aj mm],au X2,au X3,au X4,aA]):=by
 by_cases h0:YO.i64.wrap (↑(Xm (Xf (64:Nat) (aO b k)&&&Xf (64:Nat) (7:Int))):Int)=4
 ·rcases XB (cC b (aP b k) (decide (aO b k≥(192:Int)))) with h1|h1
  ·exact ak.ai (aV:= [0,1,2,3,4]) mixed [.aD _ _ _ _ _ (@cf (X0) (X2) (X3) (X4) (b) hb hl (k) (bad) (w) (rr) (mm)),tC (eF h),tC (eF h),tC h,tC (eF (bg (Xk.2 h3))),tC (eF (bg (Xk.2 h3))),tC (bg (Xk.2 h3)),tC (cP 4 true h0),.aD _ _ _ _ _ (@cf (X0) (X2) (X3) (X4) (b) hb hl (aP b k) (decide (aO b k≥(192:Int))) (w) (rr) (mm)),tC (eF h1),tC (eF h1),tC h1,.aD _ _ _ _ _ (@dI (X0) (X2) (X3) (X4) (b) hb hl (aP b (aP b k)) (true) (w) (rr) (mm)),.fL [(1,0,aZ 1 (bD b)),(1,3,ax w),(1,4,aj rr),(1,5,aj mm)] [(0,au X0),(2,au X2),(3,au X3),(4,au X4)]] (by kernel_rfl)
  ·exact (ak.ai (aV:= [0,1,2,3,4]) (s':= [au X0,au [aZ 1 (bD b),ao (↑(dG b (aP b (aP b k))):Int),ax (dL b (aP b (aP b k)) (aO b (aP b k) !=(36:Int))),ax w,aj rr,aj mm],au X2,au X3,au X4,aA]) mixed [.aD _ _ _ _ _ (@cf (X0) (X2) (X3) (X4) (b) hb hl (k) (bad) (w) (rr) (mm)),tC (eF h),tC (eF h),tC h,tC (eF (bg (Xk.2 h3))),tC (eF (bg (Xk.2 h3))),tC (bg (Xk.2 h3)),tC (cP 4 true h0),.aD _ _ _ _ _ (@cf (X0) (X2) (X3) (X4) (b) hb hl (aP b k) (decide (aO b k≥(192:Int))) (w) (rr) (mm)),tC (eF h1),tC (eF h1),tC h1,.aD _ _ _ _ _ (@dI (X0) (X2) (X3) (X4) (b) hb hl (aP b (aP b k)) (aO b (aP b k) !=(36:Int)) (w) (rr) (mm)),.fL [(1,0,aZ 1 (bD b)),(1,3,ax w),(1,4,aj rr),(1,5,aj mm)] [(0,au X0),(2,au X2),(3,au X3),(4,au X4)]]).cast rfl (by (exfalso;simp only [ck,eI,ne_eq] at hq;first|exact hq h0|exact h0 hq|(rw [bT (by omega),hx] at h1;cases h1)|(rw [bg (by omega),hx] at h1;cases h1)))
 ·exfalso;simp only [ck,eI,ne_eq] at hq;first|exact hq h0|exact h0 hq|(rw [bT (by omega),hx] at h1;cases h1)|(rw [bg (by omega),hx] at h1;cases h1)
theorem Be (X0 X2 X3 X4:List D) (b:List Int) (hb:du b) (hl:b.length≤1000) (k:Nat) (bad w:Bool) (rr mm:Int) (n0:0≤aO b k) (n1:aO b k≤255) (h:cC b k bad=false) (h2:128≤aO b k) (h3:aO b k<192) (hq:(YO.i64.wrap ((Xf 64 (aO b k)&&&Xf 64 7).toNat:Int)==4)=false):ak Xh 33 ([.ptr false 1 0]) ([au X0,bR b ((k:Int)) (bad) w rr mm,au X2,au X3,au X4]) (.aQ [aj (dz (aO b k) rr),aj (dw (aO b k) mm),ao (eJ b (aP b k))]) ([au X0,bR b ((dG b (aP b k):Nat)) (dL b (aP b k) false) w rr mm,au X2,au X3,au X4,aA]):=by
 by_cases h0:YO.i64.wrap (↑(Xm (Xf (64:Nat) (aO b k)&&&Xf (64:Nat) (7:Int))):Int)=4
 ·rcases XB (cC b (aP b k) (decide (aO b k≥(192:Int)))) with h1|h1
  ·exfalso;simp only [ck,eI,ne_eq] at hq;first|exact hq h0|exact h0 hq|(rw [bT (by omega),hx] at h1;cases h1)|(rw [bg (by omega),hx] at h1;cases h1)
  ·exfalso;simp only [ck,eI,ne_eq] at hq;first|exact hq h0|exact h0 hq|(rw [bT (by omega),hx] at h1;cases h1)|(rw [bg (by omega),hx] at h1;cases h1)
 ·exact (ak.ai (aV:= [0,1,2,3,4]) (s':= [au X0,au [aZ 1 (bD b),ao (↑(dG b (aP b k)):Int),ax (dL b (aP b k) (decide (aO b k≥(192:Int)))),ax w,aj rr,aj mm],au X2,au X3,au X4,aA]) mixed [.aD _ _ _ _ _ (@cf (X0) (X2) (X3) (X4) (b) hb hl (k) (bad) (w) (rr) (mm)),tC (eF h),tC (eF h),tC h,tC (eF (bg (Xk.2 h2))),tC (eF (bg (Xk.2 h2))),tC (bg (Xk.2 h2)),tC (aH h0),.aD _ _ _ _ _ (@dI (X0) (X2) (X3) (X4) (b) hb hl (aP b k) (decide (aO b k≥(192:Int))) (w) (rr) (mm)),.fL [(1,0,aZ 1 (bD b)),(1,3,ax w),(1,4,aj rr),(1,5,aj mm)] [(0,au X0),(2,au X2),(3,au X3),(4,au X4)]]).cast rfl (by (simp only [bT h2,bg (Int.not_le.2 h3)];done))
theorem Bd (X0 X2 X3 X4:List D) (b:List Int) (hb:du b) (hl:b.length≤1000) (k:Nat) (bad w:Bool) (rr mm:Int) (n0:0≤aO b k) (n1:aO b k≤255) (h:cC b k bad=false) (h2:128≤aO b k) (h3:aO b k<192) (hq:(YO.i64.wrap ((Xf 64 (aO b k)&&&Xf 64 7).toNat:Int)==4)=true) (m0:0≤aO b (aP b k)) (m1:aO b (aP b k)≤255) (hx:cC b (aP b k) false=true):ak Xh 33 ([.ptr false 1 0]) ([au X0,bR b ((k:Int)) (bad) w rr mm,au X2,au X3,au X4]) (.aQ [aj (dz (aO b k) rr),aj (dw (aO b k) mm),ao (eJ b (aP b (aP b k)))]) ([au X0,au [aZ 1 (bD b),ao ((dG b (aP b (aP b k)):Nat)),ax (dL b (aP b (aP b k)) true),ax w,aj rr,aj mm],au X2,au X3,au X4,aA]):=by
 by_cases h0:YO.i64.wrap (↑(Xm (Xf (64:Nat) (aO b k)&&&Xf (64:Nat) (7:Int))):Int)=4
 ·rcases XB (cC b (aP b k) (decide (aO b k≥(192:Int)))) with h1|h1
  ·exact ak.ai (aV:= [0,1,2,3,4]) mixed [.aD _ _ _ _ _ (@cf (X0) (X2) (X3) (X4) (b) hb hl (k) (bad) (w) (rr) (mm)),tC (eF h),tC (eF h),tC h,tC (eF (bg (Xk.2 h2))),tC (eF (bg (Xk.2 h2))),tC (bg (Xk.2 h2)),tC (cP 4 true h0),.aD _ _ _ _ _ (@cf (X0) (X2) (X3) (X4) (b) hb hl (aP b k) (decide (aO b k≥(192:Int))) (w) (rr) (mm)),tC (eF h1),tC (eF h1),tC h1,.aD _ _ _ _ _ (@dI (X0) (X2) (X3) (X4) (b) hb hl (aP b (aP b k)) (true) (w) (rr) (mm)),.fL [(1,0,aZ 1 (bD b)),(1,3,ax w),(1,4,aj rr),(1,5,aj mm)] [(0,au X0),(2,au X2),(3,au X3),(4,au X4)]] (by kernel_rfl)
  ·exact (ak.ai (aV:= [0,1,2,3,4]) (s':= [au X0,au [aZ 1 (bD b),ao (↑(dG b (aP b (aP b k))):Int),ax (dL b (aP b (aP b k)) (aO b (aP b k) !=(36:Int))),ax w,aj rr,aj mm],au X2,au X3,au X4,aA]) mixed [.aD _ _ _ _ _ (@cf (X0) (X2) (X3) (X4) (b) hb hl (k) (bad) (w) (rr) (mm)),tC (eF h),tC (eF h),tC h,tC (eF (bg (Xk.2 h2))),tC (eF (bg (Xk.2 h2))),tC (bg (Xk.2 h2)),tC (cP 4 true h0),.aD _ _ _ _ _ (@cf (X0) (X2) (X3) (X4) (b) hb hl (aP b k) (decide (aO b k≥(192:Int))) (w) (rr) (mm)),tC (eF h1),tC (eF h1),tC h1,.aD _ _ _ _ _ (@dI (X0) (X2) (X3) (X4) (b) hb hl (aP b (aP b k)) (aO b (aP b k) !=(36:Int)) (w) (rr) (mm)),.fL [(1,0,aZ 1 (bD b)),(1,3,ax w),(1,4,aj rr),(1,5,aj mm)] [(0,au X0),(2,au X2),(3,au X3),(4,au X4)]]).cast rfl (by (exfalso;simp only [ck,eI,ne_eq] at hq;first|exact hq h0|exact h0 hq|(rw [bT (by omega),hx] at h1;cases h1)|(rw [bg (by omega),hx] at h1;cases h1)))
 ·exfalso;simp only [ck,eI,ne_eq] at hq;first|exact hq h0|exact h0 hq|(rw [bT (by omega),hx] at h1;cases h1)|(rw [bg (by omega),hx] at h1;cases h1)
theorem Bc (X0 X2 X3 X4:List D) (b:List Int) (hb:du b) (hl:b.length≤1000) (k:Nat) (bad w:Bool) (rr mm:Int) (n0:0≤aO b k) (n1:aO b k≤255) (h:cC b k bad=false) (h2:128≤aO b k) (h3:aO b k<192) (hq:(YO.i64.wrap ((Xf 64 (aO b k)&&&Xf 64 7).toNat:Int)==4)=true) (m0:0≤aO b (aP b k)) (m1:aO b (aP b k)≤255) (hx:cC b (aP b k) false=false) (hn:(aO b (aP b k)==36)=false):ak Xh 33 ([.ptr false 1 0]) ([au X0,bR b ((k:Int)) (bad) w rr mm,au X2,au X3,au X4]) (.aQ [aj (dz (aO b k) rr),aj (dw (aO b k) mm),ao (eJ b (aP b (aP b k)))]) ([au X0,au [aZ 1 (bD b),ao ((dG b (aP b (aP b k)):Nat)),ax (dL b (aP b (aP b k)) true),ax w,aj rr,aj mm],au X2,au X3,au X4,aA]):=by
 by_cases h0:YO.i64.wrap (↑(Xm (Xf (64:Nat) (aO b k)&&&Xf (64:Nat) (7:Int))):Int)=4
 ·rcases XB (cC b (aP b k) (decide (aO b k≥(192:Int)))) with h1|h1
  ·exact ak.ai (aV:= [0,1,2,3,4]) mixed [.aD _ _ _ _ _ (@cf (X0) (X2) (X3) (X4) (b) hb hl (k) (bad) (w) (rr) (mm)),tC (eF h),tC (eF h),tC h,tC (eF (bg (Xk.2 h2))),tC (eF (bg (Xk.2 h2))),tC (bg (Xk.2 h2)),tC (cP 4 true h0),.aD _ _ _ _ _ (@cf (X0) (X2) (X3) (X4) (b) hb hl (aP b k) (decide (aO b k≥(192:Int))) (w) (rr) (mm)),tC (eF h1),tC (eF h1),tC h1,.aD _ _ _ _ _ (@dI (X0) (X2) (X3) (X4) (b) hb hl (aP b (aP b k)) (true) (w) (rr) (mm)),.fL [(1,0,aZ 1 (bD b)),(1,3,ax w),(1,4,aj rr),(1,5,aj mm)] [(0,au X0),(2,au X2),(3,au X3),(4,au X4)]] (by kernel_rfl)
  ·exact (ak.ai (aV:= [0,1,2,3,4]) (s':= [au X0,au [aZ 1 (bD b),ao (↑(dG b (aP b (aP b k))):Int),ax (dL b (aP b (aP b k)) (aO b (aP b k) !=(36:Int))),ax w,aj rr,aj mm],au X2,au X3,au X4,aA]) mixed [.aD _ _ _ _ _ (@cf (X0) (X2) (X3) (X4) (b) hb hl (k) (bad) (w) (rr) (mm)),tC (eF h),tC (eF h),tC h,tC (eF (bg (Xk.2 h2))),tC (eF (bg (Xk.2 h2))),tC (bg (Xk.2 h2)),tC (cP 4 true h0),.aD _ _ _ _ _ (@cf (X0) (X2) (X3) (X4) (b) hb hl (aP b k) (decide (aO b k≥(192:Int))) (w) (rr) (mm)),tC (eF h1),tC (eF h1),tC h1,.aD _ _ _ _ _ (@dI (X0) (X2) (X3) (X4) (b) hb hl (aP b (aP b k)) (aO b (aP b k) !=(36:Int)) (w) (rr) (mm)),.fL [(1,0,aZ 1 (bD b)),(1,3,ax w),(1,4,aj rr),(1,5,aj mm)] [(0,au X0),(2,au X2),(3,au X3),(4,au X4)]]).cast rfl (by simp only [_root_.bne,hn];rfl)
 ·exfalso;simp only [ck,eI,ne_eq] at hq;first|exact hq h0|exact h0 hq|(rw [bT (by omega),hx] at h1;cases h1)|(rw [bg (by omega),hx] at h1;cases h1)
theorem Bb (X0 X2 X3 X4:List D) (b:List Int) (hb:du b) (hl:b.length≤1000) (k:Nat) (bad w:Bool) (rr mm:Int) (n0:0≤aO b k) (n1:aO b k≤255) (h:cC b k bad=false) (h2:128≤aO b k) (h3:aO b k<192) (hq:(YO.i64.wrap ((Xf 64 (aO b k)&&&Xf 64 7).toNat:Int)==4)=true) (m0:0≤aO b (aP b k)) (m1:aO b (aP b k)≤255) (hx:cC b (aP b k) false=false) (hn:(aO b (aP b k)==36)=true):ak Xh 33 ([.ptr false 1 0]) ([au X0,bR b ((k:Int)) (bad) w rr mm,au X2,au X3,au X4]) (.aQ [aj (dz (aO b k) rr),aj (dw (aO b k) mm),ao (eJ b (aP b (aP b k)))]) ([au X0,au [aZ 1 (bD b),ao ((dG b (aP b (aP b k)):Nat)),ax (dL b (aP b (aP b k)) false),ax w,aj rr,aj mm],au X2,au X3,au X4,aA]):=by
 by_cases h0:YO.i64.wrap (↑(Xm (Xf (64:Nat) (aO b k)&&&Xf (64:Nat) (7:Int))):Int)=4
 ·rcases XB (cC b (aP b k) (decide (aO b k≥(192:Int)))) with h1|h1
  ·exact (ak.ai (aV:= [0,1,2,3,4]) (s':= [au X0,au [aZ 1 (bD b),ao (↑(dG b (aP b (aP b k))):Int),ax (dL b (aP b (aP b k)) true),ax w,aj rr,aj mm],au X2,au X3,au X4,aA]) mixed [.aD _ _ _ _ _ (@cf (X0) (X2) (X3) (X4) (b) hb hl (k) (bad) (w) (rr) (mm)),tC (eF h),tC (eF h),tC h,tC (eF (bg (Xk.2 h2))),tC (eF (bg (Xk.2 h2))),tC (bg (Xk.2 h2)),tC (cP 4 true h0),.aD _ _ _ _ _ (@cf (X0) (X2) (X3) (X4) (b) hb hl (aP b k) (decide (aO b k≥(192:Int))) (w) (rr) (mm)),tC (eF h1),tC (eF h1),tC h1,.aD _ _ _ _ _ (@dI (X0) (X2) (X3) (X4) (b) hb hl (aP b (aP b k)) (true) (w) (rr) (mm)),.fL [(1,0,aZ 1 (bD b)),(1,3,ax w),(1,4,aj rr),(1,5,aj mm)] [(0,au X0),(2,au X2),(3,au X3),(4,au X4)]]).cast rfl (by (exfalso;simp only [ck,eI,ne_eq] at hq;first|exact hq h0|exact h0 hq|(rw [bT (by omega),hx] at h1;cases h1)|(rw [bg (by omega),hx] at h1;cases h1)))
  ·exact (ak.ai (aV:= [0,1,2,3,4]) (s':= [au X0,au [aZ 1 (bD b),ao (↑(dG b (aP b (aP b k))):Int),ax (dL b (aP b (aP b k)) (aO b (aP b k) !=(36:Int))),ax w,aj rr,aj mm],au X2,au X3,au X4,aA]) mixed [.aD _ _ _ _ _ (@cf (X0) (X2) (X3) (X4) (b) hb hl (k) (bad) (w) (rr) (mm)),tC (eF h),tC (eF h),tC h,tC (eF (bg (Xk.2 h2))),tC (eF (bg (Xk.2 h2))),tC (bg (Xk.2 h2)),tC (cP 4 true h0),.aD _ _ _ _ _ (@cf (X0) (X2) (X3) (X4) (b) hb hl (aP b k) (decide (aO b k≥(192:Int))) (w) (rr) (mm)),tC (eF h1),tC (eF h1),tC h1,.aD _ _ _ _ _ (@dI (X0) (X2) (X3) (X4) (b) hb hl (aP b (aP b k)) (aO b (aP b k) !=(36:Int)) (w) (rr) (mm)),.fL [(1,0,aZ 1 (bD b)),(1,3,ax w),(1,4,aj rr),(1,5,aj mm)] [(0,au X0),(2,au X2),(3,au X3),(4,au X4)]]).cast rfl (by simp only [_root_.bne,hn];rfl)
 ·exfalso;simp only [ck,eI,ne_eq] at hq;first|exact hq h0|exact h0 hq|(rw [bT (by omega),hx] at h1;cases h1)|(rw [bg (by omega),hx] at h1;cases h1)
theorem CY (X0 X2 X3 X4:List D) (b:List Int) (hb:du b) (hl:b.length≤1000) (k:Nat) (bad w:Bool) (rr mm:Int):ak Xh 34 [.ptr false 1 0] (JR X0 X2 X3 X4 b k bad w rr mm) (.aQ [aj (dz (aO b k) rr),aj (dw (aO b k) mm)]) (JR X0 X2 X3 X4 b (aP b k) (gD b k bad) w rr mm):=by
 have h0:=dT hb k
 unfold gD
 cases h:cC b k bad with
 |true=>exact FY X0 X2 X3 X4 b hb hl k bad w rr mm h0.1 h0.2 h
 |false=>
  by_cases h2:aO b k<192
  ·rw [bT h2];exact FX X0 X2 X3 X4 b hb hl k bad w rr mm h0.1 h0.2 h h2
  ·rw [bg h2];exact FV X0 X2 X3 X4 b hb hl k bad w rr mm h0.1 h0.2 h (by omega)
theorem C0 (X0 X2 X3 X4:List D) (b:List Int) (hb:du b) (hl:b.length≤1000) (k:Nat) (bad w:Bool) (rr mm:Int):ak Xh 33 [.ptr false 1 0] (JR X0 X2 X3 X4 b k bad w rr mm) (.aQ [aj (dz (aO b k) rr),aj (dw (aO b k) mm),ao (eJ b (dW b k))]) (JR X0 X2 X3 X4 b (dG b (dW b k)) (dL b (dW b k) (jO b k bad)) w rr mm++ [aA]):=by
 have h0:=dT hb k
 have h1:=dT hb (aP b k)
 have q:=LQ h0
 unfold dW jO
 by_cases hq:aO b k%8=4
 ·simp only [if_pos hq]
  rw [bT hq] at q
  cases h:cC b k bad with
  |true=>
   simp only [Bool.true_or]
   have hx:cC b (aP b k) true=true:=by simp [cC]
   rw [hx]
   exact Bj X0 X2 X3 X4 b hb hl k bad w rr mm h0.1 h0.2 h q h1.1 h1.2 hx
  |false=>
   by_cases h2:aO b k<128
   ·have hx:cC b (aP b k) true=true:=by simp [cC]
    rw [bT h2]
    simp only [Bool.true_or,Bool.false_or]
    rw [hx]
    exact Bf X0 X2 X3 X4 b hb hl k bad w rr mm h0.1 h0.2 h h2 q h1.1 h1.2 hx
   ·by_cases h3:192≤aO b k
    ·have hx:cC b (aP b k) true=true:=by simp [cC]
     rw [bT h3]
     simp only [Bool.true_or,Bool.or_true]
     rw [hx]
     exact Bh X0 X2 X3 X4 b hb hl k bad w rr mm h0.1 h0.2 h (by omega) h3 q h1.1 h1.2 hx
    ·rw [bg h2,bg h3]
     simp only [YF]
     cases hx:cC b (aP b k) false with
     |true=>exact Bd X0 X2 X3 X4 b hb hl k bad w rr mm h0.1 h0.2 h (by omega) (by omega) q h1.1 h1.2 hx
     |false=>
      by_cases hn:aO b (aP b k)=36
      ·rw [bg (by simpa using hn)]
       exact Bb X0 X2 X3 X4 b hb hl k bad w rr mm h0.1 h0.2 h (by omega) (by omega) q h1.1 h1.2 hx (by simpa using hn)
      ·rw [bT (by simpa using hn)]
       exact Bc X0 X2 X3 X4 b hb hl k bad w rr mm h0.1 h0.2 h (by omega) (by omega) q h1.1 h1.2 hx (by simpa using hn)
 ·simp only [if_neg hq]
  rw [bg hq] at q
  cases h:cC b k bad with
  |true=>exact Bk X0 X2 X3 X4 b hb hl k bad w rr mm h0.1 h0.2 h q
  |false=>
   by_cases h2:aO b k<128
   ·rw [bT h2];exact Bg X0 X2 X3 X4 b hb hl k bad w rr mm h0.1 h0.2 h h2 q
   ·by_cases h3:192≤aO b k
    ·rw [bg h2,bT h3];exact Bi X0 X2 X3 X4 b hb hl k bad w rr mm h0.1 h0.2 h (by omega) h3 q
    ·rw [bg h2,bg h3];exact Be X0 X2 X3 X4 b hb hl k bad w rr mm h0.1 h0.2 h (by omega) (by omega) q
end Go.Proofs.YtbfpahigdpigpaaGreat
