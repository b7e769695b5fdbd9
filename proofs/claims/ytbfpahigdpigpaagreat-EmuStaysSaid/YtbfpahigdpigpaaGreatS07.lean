import Derived.Test.YtbfpahigdpigpaaGreatS05
import Derived.Test.YtbfpahigdpigpaaGreatS06
open BitVec renaming ofInt→Xf,toNat→Xm
open List renaming replicate→Xg,length→Xj,mem_cons→Yx
open Go.Proofs.Tryz renaming prog→Xh
open Int renaming toNat→Xi,not_lt→Xk
open Bool renaming eq_iff_iff→Xn,and_eq_true→Xp
open And renaming intro→Xw
open List.cons renaming injEq→XU
open Go renaming IntKind→YO
/- Contracts and plain laws that a statement's proof leans on (texts merged:XD1,MdP3,XD1A,XOf,XOfA). -/
set_option linter.unusedVariables false
set_option linter.unusedSimpArgs false
set_option maxRecDepth 100000
set_option maxHeartbeats 8000000
namespace Go.Proofs.YtbfpahigdpigpaaGreat
open Go Go.Ev
abbrev rB (s:aM):Ob:= .box [aj s.w,ax s.fw,av s.code,aj s.r,aj s.m,ao s.af,ao s.aq,ao s.small,ao s.gi,ao s.gL,aj s.high]
theorem Nw (s:aM) (k:Int) (k0:0≤k) (k1:k≤31) (v0:0≤s.code) (v1:s.code≤255) (cd nm:Int) (z0 z1 z2 z3 z4 z5 z6 z8 z9:Ob):ak Xh 143 ([.ptr false 7 0,aj (YO.i8.wrap k),.agg [aj 1,av cd,aj nm]]) ([z0,z1,z2,z3,z4,z5,z6,rB s,z8,z9]) (xD (YO.i8.wrap k) (aM.w s) (aM.m s) (aM.r s) 0 0 0 0) ([z0,z1,z2,z3,z4,z5,z6,rB s,z8,z9,aA,aA,aA]):=(ak.ai (aV:= [0,1,2,3,4,5,6,7,8,9]) (d:=(xD (YO.i8.wrap k) (aM.w s) (aM.m s) (aM.r s) 0 0 0 0)) (s':= [z0,z1,z2,z3,z4,z5,z6,rB s,z8,z9,aA,aA,aA]) mixed [tT]).cast (by first|(rfl;done)|(exfalso;(try simp only [bP,cq,ck,eI,gu,ne_eq] at*);first|omega|contradiction)) (by rfl)
theorem Nv (s:aM) (k:Int) (k0:0≤k) (k1:k≤31) (v0:0≤s.code) (v1:s.code≤255) (cd nm:Int) (z0 z1 z2 z3 z4 z5 z6 z8 z9:Ob):ak Xh 143 ([.ptr false 7 0,aj (YO.i8.wrap k),.agg [aj 2,av cd,aj nm]]) ([z0,z1,z2,z3,z4,z5,z6,rB s,z8,z9]) (xD (YO.i8.wrap k) (aM.w s) (aM.r s) (aM.m s) 0 0 0 0) ([z0,z1,z2,z3,z4,z5,z6,rB s,z8,z9,aA,aA,aA]):=(ak.ai (aV:= [0,1,2,3,4,5,6,7,8,9]) (d:=(xD (YO.i8.wrap k) (aM.w s) (aM.r s) (aM.m s) 0 0 0 0)) (s':= [z0,z1,z2,z3,z4,z5,z6,rB s,z8,z9,aA,aA,aA]) mixed [tF,tT]).cast (by first|(rfl;done)|(exfalso;(try simp only [bP,cq,ck,eI,gu,ne_eq] at*);first|omega|contradiction)) (by rfl)
theorem Lx (s:aM) (k:Int) (k0:0≤k) (k1:k≤31) (v0:0≤s.code) (v1:s.code≤255) (cd nm:Int) (z0 z1 z2 z3 z4 z5 z6 z8 z9:Ob) (hk:¬k=1):ak Xh 143 ([.ptr false 7 0,aj (YO.i8.wrap k),.agg [aj 3,av cd,aj nm]]) ([z0,z1,z2,z3,z4,z5,z6,rB s,z8,z9]) (xD (YO.i8.wrap k) (aM.w s) (aM.m s) 0 0 0 (aM.aq s) 0) ([z0,z1,z2,z3,z4,z5,z6,rB s,z8,z9,aA,aA,aA]):=(ak.ai (aV:= [0,1,2,3,4,5,6,7,8,9]) (d:=(xD (YO.i8.wrap k) (aM.w s) (aM.m s) 0 0 0 (aM.aq s) 0)) (s':= [z0,z1,z2,z3,z4,z5,z6,rB s,z8,z9,aA,aA,aA]) mixed ([tF,tF,tF,tT,tC (eT (by (simp only [cY] at*;omega):(YO.i8.wrap k==1)=false)),tC (eT (by (simp only [cY] at*;omega):(YO.i8.wrap k==1)=false)),tC (eT (by (simp only [cY] at*;omega):(YO.i8.wrap k==1)=false)),tC (eT (by (simp only [cY] at*;omega):(YO.i8.wrap k==1)=false)),tC (eT (by (simp only [cY] at*;omega):(YO.i8.wrap k==1)=false)),tC (by (simp only [cY] at*;omega):(YO.i8.wrap k==1)=false),tF,tF,tF,tF,tF,tF]++ [tF])).cast (by first|(rfl;done)|(exfalso;(try simp only [bP,cq,ck,eI,gu,ne_eq] at*);first|omega|contradiction)) (by rfl)
theorem Lz (s:aM) (k:Int) (k0:0≤k) (k1:k≤31) (v0:0≤s.code) (v1:s.code≤255) (cd nm:Int) (z0 z1 z2 z3 z4 z5 z6 z8 z9:Ob) (hk:k=1) (hc:s.code<184):ak Xh 143 ([.ptr false 7 0,aj (YO.i8.wrap k),.agg [aj 3,av cd,aj nm]]) ([z0,z1,z2,z3,z4,z5,z6,rB s,z8,z9]) (xD (YO.i8.wrap k) (aM.w s) (aM.m s) 0 0 0 (aM.aq s) 0) ([z0,z1,z2,z3,z4,z5,z6,rB s,z8,z9,aA,aA,aA]):=(ak.ai (aV:= [0,1,2,3,4,5,6,7,8,9]) (d:=(xD (YO.i8.wrap k) (aM.w s) (aM.m s) 0 0 0 (aM.aq s) 0)) (s':= [z0,z1,z2,z3,z4,z5,z6,rB s,z8,z9,aA,aA,aA]) mixed ([tF,tF,tF,tT,tC (eT (cP 1 true (by (simp only [cY] at*;omega):YO.i8.wrap k=1))),tC (eT (cP 1 true (by (simp only [cY] at*;omega):YO.i8.wrap k=1))),tC (eT (cP 1 true (by (simp only [cY] at*;omega):YO.i8.wrap k=1))),tC (eT (cP 1 true (by (simp only [cY] at*;omega):YO.i8.wrap k=1))),tC (eT (cP 1 true (by (simp only [cY] at*;omega):YO.i8.wrap k=1))),tC (cP 1 true (by (simp only [cY] at*;omega):YO.i8.wrap k=1)),tC (eT (bO 184 (bT hc))),tC (eT (bO 184 (bT hc))),tC (eT (bO 184 (bT hc))),tC (eT (bO 184 (bT hc))),tC (eT (bO 184 (bT hc))),tC (bO 184 (bT hc))]++ [tF])).cast (by first|(rfl;done)|(exfalso;(try simp only [bP,cq,ck,eI,gu,ne_eq] at*);first|omega|contradiction)) (by rfl)
theorem LA (s:aM) (k:Int) (k0:0≤k) (k1:k≤31) (v0:0≤s.code) (v1:s.code≤255) (cd nm:Int) (z0 z1 z2 z3 z4 z5 z6 z8 z9:Ob) (hk:k=1) (hc:192≤s.code):ak Xh 143 ([.ptr false 7 0,aj (YO.i8.wrap k),.agg [aj 3,av cd,aj nm]]) ([z0,z1,z2,z3,z4,z5,z6,rB s,z8,z9]) (xD (YO.i8.wrap k) (aM.w s) (aM.m s) 0 0 0 (aM.aq s) 0) ([z0,z1,z2,z3,z4,z5,z6,rB s,z8,z9,aA,aA,aA]):=(ak.ai (aV:= [0,1,2,3,4,5,6,7,8,9]) (d:=(xD (YO.i8.wrap k) (aM.w s) (aM.m s) 0 0 0 (aM.aq s) 0)) (s':= [z0,z1,z2,z3,z4,z5,z6,rB s,z8,z9,aA,aA,aA]) mixed ([tF,tF,tF,tT,tC (eT (cP 1 true (by (simp only [cY] at*;omega):YO.i8.wrap k=1))),tC (eT (cP 1 true (by (simp only [cY] at*;omega):YO.i8.wrap k=1))),tC (eT (cP 1 true (by (simp only [cY] at*;omega):YO.i8.wrap k=1))),tC (eT (cP 1 true (by (simp only [cY] at*;omega):YO.i8.wrap k=1))),tC (eT (cP 1 true (by (simp only [cY] at*;omega):YO.i8.wrap k=1))),tC (cP 1 true (by (simp only [cY] at*;omega):YO.i8.wrap k=1)),tC (eT (bO 184 (lR 184 (bg (Xk.2 hc))))),tC (eT (bO 184 (lR 184 (bg (Xk.2 hc))))),tC (eT (bO 184 (lR 184 (bg (Xk.2 hc))))),tC (eT (bO 184 (lR 184 (bg (Xk.2 hc))))),tC (eT (bO 184 (lR 184 (bg (Xk.2 hc))))),tC (bO 184 (lR 184 (bg (Xk.2 hc))))]++ [tC (bg (Xk.2 hc))])).cast (by first|(rfl;done)|(exfalso;(try simp only [bP,cq,ck,eI,gu,ne_eq] at*);first|omega|contradiction)) (by rfl)
theorem Ly (s:aM) (k:Int) (k0:0≤k) (k1:k≤31) (v0:0≤s.code) (v1:s.code≤255) (cd nm:Int) (z0 z1 z2 z3 z4 z5 z6 z8 z9:Ob) (hk:k=1) (hc:184≤s.code) (hd:s.code<192) (hh:s.high=0∨s.high=8):ak Xh 143 ([.ptr false 7 0,aj (YO.i8.wrap k),.agg [aj 3,av cd,aj nm]]) ([z0,z1,z2,z3,z4,z5,z6,rB s,z8,z9]) (xD (YO.i8.wrap k) (aM.w s) (s.code%8+s.high) 0 0 0 (aM.gi s) 0) ([z0,z1,z2,z3,z4,z5,z6,rB s,z8,z9,aA,aA,aA]):=(ak.ai (aV:= [0,1,2,3,4,5,6,7,8,9]) (d:=(xD (YO.i8.wrap k) (aM.w s) (YO.i8.wrap (↑(Xm (Xf 8 (YO.i8.wrap (YO.u8.wrap (↑(Xm (Xf 8 (aM.code s)&&&Xf 8 7)):Int)))|||Xf 8 (aM.high s))):Int)) 0 0 0 (aM.gi s) 0)) (s':= [z0,z1,z2,z3,z4,z5,z6,rB s,z8,z9,aA,aA,aA]) mixed ([tF,tF,tF,tT,tC (eT (cP 1 true (by (simp only [cY] at*;omega):YO.i8.wrap k=1))),tC (eT (cP 1 true (by (simp only [cY] at*;omega):YO.i8.wrap k=1))),tC (eT (cP 1 true (by (simp only [cY] at*;omega):YO.i8.wrap k=1))),tC (eT (cP 1 true (by (simp only [cY] at*;omega):YO.i8.wrap k=1))),tC (eT (cP 1 true (by (simp only [cY] at*;omega):YO.i8.wrap k=1))),tC (cP 1 true (by (simp only [cY] at*;omega):YO.i8.wrap k=1)),tC (eT (bO 184 (bg (Xk.2 hc)))),tC (eT (bO 184 (bg (Xk.2 hc)))),tC (eT (bO 184 (bg (Xk.2 hc)))),tC (eT (bO 184 (bg (Xk.2 hc)))),tC (eT (bO 184 (bg (Xk.2 hc)))),tC (bO 184 (bg (Xk.2 hc)))]++ [tC (bT hd)])).cast (by first|(simp only [xD,D.agg.injEq,XU,D.int.injEq,ev,fS];exact M6 v0 v1 hh;done)|(exfalso;(try simp only [bP,cq,ck,eI,gu,ne_eq] at*);first|omega|contradiction)) (by rfl)
theorem Nu (s:aM) (k:Int) (k0:0≤k) (k1:k≤31) (v0:0≤s.code) (v1:s.code≤255) (cd nm:Int) (z0 z1 z2 z3 z4 z5 z6 z8 z9:Ob):ak Xh 143 ([.ptr false 7 0,aj (YO.i8.wrap k),.agg [aj 4,av cd,aj nm]]) ([z0,z1,z2,z3,z4,z5,z6,rB s,z8,z9]) (xD (YO.i8.wrap k) (aM.w s) (aM.m s) 0 0 0 (aM.small s) 0) ([z0,z1,z2,z3,z4,z5,z6,rB s,z8,z9,aA,aA,aA]):=(ak.ai (aV:= [0,1,2,3,4,5,6,7,8,9]) (d:=(xD (YO.i8.wrap k) (aM.w s) (aM.m s) 0 0 0 (aM.small s) 0)) (s':= [z0,z1,z2,z3,z4,z5,z6,rB s,z8,z9,aA,aA,aA]) mixed [tF,tF,tF,tF,tT]).cast (by first|(rfl;done)|(exfalso;(try simp only [bP,cq,ck,eI,gu,ne_eq] at*);first|omega|contradiction)) (by rfl)
theorem Nt (s:aM) (k:Int) (k0:0≤k) (k1:k≤31) (v0:0≤s.code) (v1:s.code≤255) (cd nm:Int) (z0 z1 z2 z3 z4 z5 z6 z8 z9:Ob):ak Xh 143 ([.ptr false 7 0,aj (YO.i8.wrap k),.agg [aj 5,av cd,aj nm]]) ([z0,z1,z2,z3,z4,z5,z6,rB s,z8,z9]) (xD (YO.i8.wrap k) (aM.w s) (aM.m s) 0 0 0 0 0) ([z0,z1,z2,z3,z4,z5,z6,rB s,z8,z9,aA,aA,aA]):=(ak.ai (aV:= [0,1,2,3,4,5,6,7,8,9]) (d:=(xD (YO.i8.wrap k) (aM.w s) (aM.m s) 0 0 0 0 0)) (s':= [z0,z1,z2,z3,z4,z5,z6,rB s,z8,z9,aA,aA,aA]) mixed [tF,tF,tF,tF,tF,tT]).cast (by first|(rfl;done)|(exfalso;(try simp only [bP,cq,ck,eI,gu,ne_eq] at*);first|omega|contradiction)) (by rfl)
theorem Ns (s:aM) (k:Int) (k0:0≤k) (k1:k≤31) (v0:0≤s.code) (v1:s.code≤255) (cd nm:Int) (z0 z1 z2 z3 z4 z5 z6 z8 z9:Ob):ak Xh 143 ([.ptr false 7 0,aj (YO.i8.wrap k),.agg [aj 6,av cd,aj nm]]) ([z0,z1,z2,z3,z4,z5,z6,rB s,z8,z9]) (xD (YO.i8.wrap k) (aM.w s) (aM.r s) (aM.m s) 0 0 0 (eW (s.code - cd))) ([z0,z1,z2,z3,z4,z5,z6,rB s,z8,z9,aA,aA,aA]):=(ak.ai (aV:= [0,1,2,3,4,5,6,7,8,9]) (d:=(xD (YO.i8.wrap k) (aM.w s) (aM.r s) (aM.m s) 0 0 0 (YO.i8.wrap (YO.u8.wrap (aM.code s - cd))))) (s':= [z0,z1,z2,z3,z4,z5,z6,rB s,z8,z9,aA,aA,aA]) mixed [tF,tF,tT]).cast (by first|(simp only [xD,D.agg.injEq,XU,D.int.injEq,ev,fS];rw [dJ,bF,eW];omega;done)|(exfalso;(try simp only [bP,cq,ck,eI,gu,ne_eq] at*);first|omega|contradiction)) (by rfl)
theorem Lv (s:aM) (k:Int) (k0:0≤k) (k1:k≤31) (v0:0≤s.code) (v1:s.code≤255) (cd nm:Int) (z0 z1 z2 z3 z4 z5 z6 z8 z9:Ob) (hl:s.fw=true):ak Xh 143 ([.ptr false 7 0,aj (YO.i8.wrap k),.agg [aj 7,av cd,aj nm]]) ([z0,z1,z2,z3,z4,z5,z6,au [aj (aM.w s),ax (aM.fw s),av (aM.code s),aj (aM.r s),aj (aM.m s),ao (aM.af s),ao (aM.aq s),ao (aM.small s),ao (aM.gi s),ao (aM.gL s),aj (aM.high s)],z8,z9]) (xD (YO.i8.wrap k) (if s.code%2=1 then 16 else 8) (aM.r s) 0 (aM.m s) (aM.af s) 0 0) ([z0,z1,z2,z3,z4,z5,z6,au [aj (aM.w s),ax (aM.fw s),av (aM.code s),aj (aM.r s),aj (aM.m s),ao (aM.af s),ao (aM.aq s),ao (aM.small s),ao (aM.gi s),ao (aM.gL s),aj (aM.high s)],z8,z9,aA,aA,aA]):=(ak.ai (aV:= [0,1,2,3,4,5,6,7,8,9]) (d:=(xD (YO.i8.wrap k) (YO.i8.wrap (8*2^min (Xi (YO.u8.wrap (↑(Xm (Xf 8 (aM.code s)&&&Xf 8 1)):Int))) 8)) (aM.r s) 0 (aM.m s) (aM.af s) 0 0)) (s':= [z0,z1,z2,z3,z4,z5,z6,rB s,z8,z9,aA,aA,aA]) mixed [tF,tF,tF,tF,tF,tF,tT,tC hl,tT]).cast (by first|(simp only [xD,D.agg.injEq,XU,D.int.injEq,ev,fS];exact J5 v0 v1;done)|(exfalso;(try simp only [bP,cq,ck,eI,gu,ne_eq] at*);first|omega|contradiction)) (by rfl)
theorem Lw (s:aM) (k:Int) (k0:0≤k) (k1:k≤31) (v0:0≤s.code) (v1:s.code≤255) (cd nm:Int) (z0 z1 z2 z3 z4 z5 z6 z8 z9:Ob) (hl:s.fw=false):ak Xh 143 ([.ptr false 7 0,aj (YO.i8.wrap k),.agg [aj 7,av cd,aj nm]]) ([z0,z1,z2,z3,z4,z5,z6,au [aj (aM.w s),ax (aM.fw s),av (aM.code s),aj (aM.r s),aj (aM.m s),ao (aM.af s),ao (aM.aq s),ao (aM.small s),ao (aM.gi s),ao (aM.gL s),aj (aM.high s)],z8,z9]) (xD (YO.i8.wrap k) (aM.w s) (aM.r s) 0 (aM.m s) (aM.af s) 0 0) ([z0,z1,z2,z3,z4,z5,z6,au [aj (aM.w s),ax (aM.fw s),av (aM.code s),aj (aM.r s),aj (aM.m s),ao (aM.af s),ao (aM.aq s),ao (aM.small s),ao (aM.gi s),ao (aM.gL s),aj (aM.high s)],z8,z9,aA,aA,aA]):=(ak.ai (aV:= [0,1,2,3,4,5,6,7,8,9]) (d:=(xD (YO.i8.wrap k) (aM.w s) (aM.r s) 0 (aM.m s) (aM.af s) 0 0)) (s':= [z0,z1,z2,z3,z4,z5,z6,rB s,z8,z9,aA,aA,aA]) mixed [tF,tF,tF,tF,tF,tF,tT,tC hl]).cast (by first|(rfl;done)|(exfalso;(try simp only [bP,cq,ck,eI,gu,ne_eq] at*);first|omega|contradiction)) (by rfl)
theorem Lt (s:aM) (k:Int) (k0:0≤k) (k1:k≤31) (v0:0≤s.code) (v1:s.code≤255) (cd nm:Int) (z0 z1 z2 z3 z4 z5 z6 z8 z9:Ob) (hc:s.code=136):ak Xh 143 ([.ptr false 7 0,aj (YO.i8.wrap k),.agg [aj 8,av cd,aj nm]]) ([z0,z1,z2,z3,z4,z5,z6,rB s,z8,z9]) (xD (YO.i8.wrap k) 8 0 (aM.r s) (aM.m s) (aM.af s) 0 0) ([z0,z1,z2,z3,z4,z5,z6,rB s,z8,z9,aA,aA,aA]):=by
 by_cases h0:aM.code s=136
 ·exact (ak.ai (aV:= [0,1,2,3,4,5,6,7,8,9]) (d:=(xD (YO.i8.wrap k) 8 0 (aM.r s) (aM.m s) (aM.af s) 0 0)) (s':= [z0,z1,z2,z3,z4,z5,z6,rB s,z8,z9,aA,aA,aA]) mixed (bK 8 128++ [tC (cP 136 true h0)])).cast (by first|(rfl;done)|(exfalso;(try simp only [bP,cq,ck,eI,gu,ne_eq] at*);first|omega|contradiction)) (by rfl)
 exact (ak.ai (aV:= [0,1,2,3,4,5,6,7,8,9]) (d:=(xD (YO.i8.wrap k) (aM.w s) 0 (aM.r s) (aM.m s) (aM.af s) 0 0)) (s':= [z0,z1,z2,z3,z4,z5,z6,rB s,z8,z9,aA,aA,aA]) mixed (bK 8 128++ [tC (aH h0)])).cast (by first|(rfl;done)|(exfalso;(try simp only [bP,cq,ck,eI,gu,ne_eq] at*);first|omega|contradiction)) (by rfl)
theorem Lu (s:aM) (k:Int) (k0:0≤k) (k1:k≤31) (v0:0≤s.code) (v1:s.code≤255) (cd nm:Int) (z0 z1 z2 z3 z4 z5 z6 z8 z9:Ob) (hc:¬s.code=136):ak Xh 143 ([.ptr false 7 0,aj (YO.i8.wrap k),.agg [aj 8,av cd,aj nm]]) ([z0,z1,z2,z3,z4,z5,z6,rB s,z8,z9]) (xD (YO.i8.wrap k) (aM.w s) 0 (aM.r s) (aM.m s) (aM.af s) 0 0) ([z0,z1,z2,z3,z4,z5,z6,rB s,z8,z9,aA,aA,aA]):=(ak.ai (aV:= [0,1,2,3,4,5,6,7,8,9]) (d:=(xD (YO.i8.wrap k) (aM.w s) 0 (aM.r s) (aM.m s) (aM.af s) 0 0)) (s':= [z0,z1,z2,z3,z4,z5,z6,rB s,z8,z9,aA,aA,aA]) mixed (bK 8 128++ [tC (by (simp only [cY] at*;omega):(aM.code s==136)=false)])).cast (by first|(rfl;done)|(exfalso;(try simp only [bP,cq,ck,eI,gu,ne_eq] at*);first|omega|contradiction)) (by rfl)
theorem Ls (s:aM) (k:Int) (k0:0≤k) (k1:k≤31) (v0:0≤s.code) (v1:s.code≤255) (cd nm:Int) (z0 z1 z2 z3 z4 z5 z6 z8 z9:Ob) (hl:s.fw=true):ak Xh 143 ([.ptr false 7 0,aj (YO.i8.wrap k),.agg [aj 9,av cd,aj nm]]) ([z0,z1,z2,z3,z4,z5,z6,au [aj (aM.w s),ax (aM.fw s),av (aM.code s),aj (aM.r s),aj (aM.m s),ao (aM.af s),ao (aM.aq s),ao (aM.small s),ao (aM.gi s),ao (aM.gL s),aj (aM.high s)],z8,z9]) (xD (YO.i8.wrap k) 32 0 0 0 0 (aM.gi s) 0) ([z0,z1,z2,z3,z4,z5,z6,au [aj (aM.w s),ax (aM.fw s),av (aM.code s),aj (aM.r s),aj (aM.m s),ao (aM.af s),ao (aM.aq s),ao (aM.small s),ao (aM.gi s),ao (aM.gL s),aj (aM.high s)],z8,z9,aA,aA,aA]):=(ak.ai (aV:= [0,1,2,3,4,5,6,7,8,9]) (d:=(xD (YO.i8.wrap k) 32 0 0 0 0 (aM.gi s) 0)) (s':= [z0,z1,z2,z3,z4,z5,z6,rB s,z8,z9,aA,aA,aA]) mixed ((bK 11 768++ [tC (eT (nt hl)),tC (eT (nt hl)),tC (eT (nt hl)),tC (eT (nt hl)),tC (eT (nt hl))])++ [tC (nt hl),tF])).cast (by first|(rfl;done)|(exfalso;(try simp only [bP,cq,ck,eI,gu,ne_eq] at*);first|omega|contradiction)) (by rfl)
theorem Lr (s:aM) (k:Int) (k0:0≤k) (k1:k≤31) (v0:0≤s.code) (v1:s.code≤255) (cd nm:Int) (z0 z1 z2 z3 z4 z5 z6 z8 z9:Ob) (hl:s.fw=false) (hc:s.code=233):ak Xh 143 ([.ptr false 7 0,aj (YO.i8.wrap k),.agg [aj 9,av cd,aj nm]]) ([z0,z1,z2,z3,z4,z5,z6,au [aj (aM.w s),ax (aM.fw s),av (aM.code s),aj (aM.r s),aj (aM.m s),ao (aM.af s),ao (aM.aq s),ao (aM.small s),ao (aM.gi s),ao (aM.gL s),aj (aM.high s)],z8,z9]) (xD (YO.i8.wrap k) 32 0 0 0 0 (aM.gi s) 0) ([z0,z1,z2,z3,z4,z5,z6,au [aj (aM.w s),ax (aM.fw s),av (aM.code s),aj (aM.r s),aj (aM.m s),ao (aM.af s),ao (aM.aq s),ao (aM.small s),ao (aM.gi s),ao (aM.gL s),aj (aM.high s)],z8,z9,aA,aA,aA]):=by
 by_cases h0:aM.code s=233
 ·exact (ak.ai (aV:= [0,1,2,3,4,5,6,7,8,9]) (d:=(xD (YO.i8.wrap k) 32 0 0 0 0 (aM.gi s) 0)) (s':= [z0,z1,z2,z3,z4,z5,z6,rB s,z8,z9,aA,aA,aA]) mixed ((bK 11 768++ [tC (eT (nt hl)),tC (eT (nt hl)),tC (eT (nt hl)),tC (eT (nt hl)),tC (eT (nt hl))])++ [tC (nt hl),tC (nt (cP 233 true h0))])).cast (by first|(rfl;done)|(exfalso;(try simp only [bP,cq,ck,eI,gu,ne_eq] at*);first|omega|contradiction)) (by rfl)
 exact (ak.ai (aV:= [0,1,2,3,4,5,6,7,8,9]) (d:=(xD (YO.i8.wrap k) 8 0 0 0 0 (aM.gL s) 0)) (s':= [z0,z1,z2,z3,z4,z5,z6,rB s,z8,z9,aA,aA,aA]) mixed ((bK 11 768++ [tC (eT (nt hl)),tC (eT (nt hl)),tC (eT (nt hl)),tC (eT (nt hl)),tC (eT (nt hl))])++ [tC (nt hl),tC (nt (aH h0))])).cast (by first|(rfl;done)|(exfalso;(try simp only [bP,cq,ck,eI,gu,ne_eq] at*);first|omega|contradiction)) (by rfl)
theorem Lq (s:aM) (k:Int) (k0:0≤k) (k1:k≤31) (v0:0≤s.code) (v1:s.code≤255) (cd nm:Int) (z0 z1 z2 z3 z4 z5 z6 z8 z9:Ob) (hl:s.fw=false) (hc:¬s.code=233):ak Xh 143 ([.ptr false 7 0,aj (YO.i8.wrap k),.agg [aj 9,av cd,aj nm]]) ([z0,z1,z2,z3,z4,z5,z6,au [aj (aM.w s),ax (aM.fw s),av (aM.code s),aj (aM.r s),aj (aM.m s),ao (aM.af s),ao (aM.aq s),ao (aM.small s),ao (aM.gi s),ao (aM.gL s),aj (aM.high s)],z8,z9]) (xD (YO.i8.wrap k) 8 0 0 0 0 (aM.gL s) 0) ([z0,z1,z2,z3,z4,z5,z6,au [aj (aM.w s),ax (aM.fw s),av (aM.code s),aj (aM.r s),aj (aM.m s),ao (aM.af s),ao (aM.aq s),ao (aM.small s),ao (aM.gi s),ao (aM.gL s),aj (aM.high s)],z8,z9,aA,aA,aA]):=(ak.ai (aV:= [0,1,2,3,4,5,6,7,8,9]) (d:=(xD (YO.i8.wrap k) 8 0 0 0 0 (aM.gL s) 0)) (s':= [z0,z1,z2,z3,z4,z5,z6,rB s,z8,z9,aA,aA,aA]) mixed ((bK 11 768++ [tC (eT (nt hl)),tC (eT (nt hl)),tC (eT (nt hl)),tC (eT (nt hl)),tC (eT (nt hl))])++ [tC (nt hl),tC (nt (by (simp only [cY] at*;omega):(aM.code s==233)=false))])).cast (by first|(rfl;done)|(exfalso;(try simp only [bP,cq,ck,eI,gu,ne_eq] at*);first|omega|contradiction)) (by rfl)
theorem JE (s:aM) (k:Int) (k0:0≤k) (k1:k≤31) (v0:0≤s.code) (v1:s.code≤255) (cd nm:Int) (z0 z1 z2 z3 z4 z5 z6 z8 z9:Ob) (hl:s.fw=true):ak Xh 143 ([.ptr false 7 0,aj (YO.i8.wrap k),.agg [aj 10,av cd,aj nm]]) ([z0,z1,z2,z3,z4,z5,z6,au [aj (aM.w s),ax (aM.fw s),av (aM.code s),aj (aM.r s),aj (aM.m s),ao (aM.af s),ao (aM.aq s),ao (aM.small s),ao (aM.gi s),ao (aM.gL s),aj (aM.high s)],z8,z9]) (xD (YO.i8.wrap k) 32 0 0 0 0 (aM.gi s) (s.code%16)) ([z0,z1,z2,z3,z4,z5,z6,au [aj (aM.w s),ax (aM.fw s),av (aM.code s),aj (aM.r s),aj (aM.m s),ao (aM.af s),ao (aM.aq s),ao (aM.small s),ao (aM.gi s),ao (aM.gL s),aj (aM.high s)],z8,z9,aA,aA,aA]):=(ak.ai (aV:= [0,1,2,3,4,5,6,7,8,9]) (d:=(xD (YO.i8.wrap k) 32 0 0 0 0 (aM.gi s) (YO.i8.wrap (YO.u8.wrap (↑(Xm (Xf 8 (aM.code s)&&&Xf 8 15)):Int))))) (s':= [z0,z1,z2,z3,z4,z5,z6,rB s,z8,z9,aA,aA,aA]) mixed ((bK 11 1536++ [tC (eT (nt hl)),tC (eT (nt hl)),tC (eT (nt hl)),tC (eT (nt hl)),tC (eT (nt hl))])++ [tC (nt hl),tF])).cast (by first|(simp only [xD,D.agg.injEq,XU,D.int.injEq,ev,fS];exact CO v0 v1;done)|(exfalso;(try simp only [bP,cq,ck,eI,gu,ne_eq] at*);first|omega|contradiction)) (by rfl)
theorem JD (s:aM) (k:Int) (k0:0≤k) (k1:k≤31) (v0:0≤s.code) (v1:s.code≤255) (cd nm:Int) (z0 z1 z2 z3 z4 z5 z6 z8 z9:Ob) (hl:s.fw=false) (hc:s.code=233):ak Xh 143 ([.ptr false 7 0,aj (YO.i8.wrap k),.agg [aj 10,av cd,aj nm]]) ([z0,z1,z2,z3,z4,z5,z6,au [aj (aM.w s),ax (aM.fw s),av (aM.code s),aj (aM.r s),aj (aM.m s),ao (aM.af s),ao (aM.aq s),ao (aM.small s),ao (aM.gi s),ao (aM.gL s),aj (aM.high s)],z8,z9]) (xD (YO.i8.wrap k) 32 0 0 0 0 (aM.gi s) (s.code%16)) ([z0,z1,z2,z3,z4,z5,z6,au [aj (aM.w s),ax (aM.fw s),av (aM.code s),aj (aM.r s),aj (aM.m s),ao (aM.af s),ao (aM.aq s),ao (aM.small s),ao (aM.gi s),ao (aM.gL s),aj (aM.high s)],z8,z9,aA,aA,aA]):=by
 by_cases h0:aM.code s=233
 ·exact (ak.ai (aV:= [0,1,2,3,4,5,6,7,8,9]) (d:=(xD (YO.i8.wrap k) 32 0 0 0 0 (aM.gi s) (YO.i8.wrap (YO.u8.wrap (↑(Xm (Xf 8 (aM.code s)&&&Xf 8 15)):Int))))) (s':= [z0,z1,z2,z3,z4,z5,z6,rB s,z8,z9,aA,aA,aA]) mixed ((bK 11 1536++ [tC (eT (nt hl)),tC (eT (nt hl)),tC (eT (nt hl)),tC (eT (nt hl)),tC (eT (nt hl))])++ [tC (nt hl),tC (nt (cP 233 true h0))])).cast (by first|(simp only [xD,D.agg.injEq,XU,D.int.injEq,ev,fS];exact CO v0 v1;done)|(exfalso;(try simp only [bP,cq,ck,eI,gu,ne_eq] at*);first|omega|contradiction)) (by rfl)
 exact (ak.ai (aV:= [0,1,2,3,4,5,6,7,8,9]) (d:=(xD (YO.i8.wrap k) 8 0 0 0 0 (aM.gL s) (YO.i8.wrap (YO.u8.wrap (↑(Xm (Xf 8 (aM.code s)&&&Xf 8 15)):Int))))) (s':= [z0,z1,z2,z3,z4,z5,z6,rB s,z8,z9,aA,aA,aA]) mixed ((bK 11 1536++ [tC (eT (nt hl)),tC (eT (nt hl)),tC (eT (nt hl)),tC (eT (nt hl)),tC (eT (nt hl))])++ [tC (nt hl),tC (nt (aH h0))])).cast (by first|(simp only [xD,D.agg.injEq,XU,D.int.injEq,ev,fS];exact CO v0 v1;done)|(exfalso;(try simp only [bP,cq,ck,eI,gu,ne_eq] at*);first|omega|contradiction)) (by rfl)
theorem JC (s:aM) (k:Int) (k0:0≤k) (k1:k≤31) (v0:0≤s.code) (v1:s.code≤255) (cd nm:Int) (z0 z1 z2 z3 z4 z5 z6 z8 z9:Ob) (hl:s.fw=false) (hc:¬s.code=233):ak Xh 143 ([.ptr false 7 0,aj (YO.i8.wrap k),.agg [aj 10,av cd,aj nm]]) ([z0,z1,z2,z3,z4,z5,z6,au [aj (aM.w s),ax (aM.fw s),av (aM.code s),aj (aM.r s),aj (aM.m s),ao (aM.af s),ao (aM.aq s),ao (aM.small s),ao (aM.gi s),ao (aM.gL s),aj (aM.high s)],z8,z9]) (xD (YO.i8.wrap k) 8 0 0 0 0 (aM.gL s) (s.code%16)) ([z0,z1,z2,z3,z4,z5,z6,au [aj (aM.w s),ax (aM.fw s),av (aM.code s),aj (aM.r s),aj (aM.m s),ao (aM.af s),ao (aM.aq s),ao (aM.small s),ao (aM.gi s),ao (aM.gL s),aj (aM.high s)],z8,z9,aA,aA,aA]):=(ak.ai (aV:= [0,1,2,3,4,5,6,7,8,9]) (d:=(xD (YO.i8.wrap k) 8 0 0 0 0 (aM.gL s) (YO.i8.wrap (YO.u8.wrap (↑(Xm (Xf 8 (aM.code s)&&&Xf 8 15)):Int))))) (s':= [z0,z1,z2,z3,z4,z5,z6,rB s,z8,z9,aA,aA,aA]) mixed ((bK 11 1536++ [tC (eT (nt hl)),tC (eT (nt hl)),tC (eT (nt hl)),tC (eT (nt hl)),tC (eT (nt hl))])++ [tC (nt hl),tC (nt (by (simp only [cY] at*;omega):(aM.code s==233)=false))])).cast (by first|(simp only [xD,D.agg.injEq,XU,D.int.injEq,ev,fS];exact CO v0 v1;done)|(exfalso;(try simp only [bP,cq,ck,eI,gu,ne_eq] at*);first|omega|contradiction)) (by rfl)
theorem LB (s:aM) (k:Int) (k0:0≤k) (k1:k≤31) (v0:0≤s.code) (v1:s.code≤255) (cd nm:Int) (z0 z1 z2 z3 z4 z5 z6 z8 z9:Ob):ak Xh 143 ([.ptr false 7 0,aj (YO.i8.wrap k),.agg [aj 11,av cd,aj nm]]) ([z0,z1,z2,z3,z4,z5,z6,rB s,z8,z9]) (xD (YO.i8.wrap k) 0 0 0 0 0 0 0) ([z0,z1,z2,z3,z4,z5,z6,rB s,z8,z9,aA,aA,aA]):=(ak.ai (aV:= [0,1,2,3,4,5,6,7,8,9]) (d:=(xD (YO.i8.wrap k) 0 0 0 0 0 0 0)) (s':= [z0,z1,z2,z3,z4,z5,z6,rB s,z8,z9,aA,aA,aA]) mixed (bK 11 1024)).cast (by first|(rfl;done)|(exfalso;(try simp only [bP,cq,ck,eI,gu,ne_eq] at*);first|omega|contradiction)) (by rfl)
end Go.Proofs.YtbfpahigdpigpaaGreat
namespace Go.Ev
open Go
def lV (x:XS):D:=xD x.op x.w x.ab x.ae x.aa x.af x.aq x.cc
def rp (x:XS):Bool:=a8 x.op x.w x.ab x.ae x.aa x.af x.aq x.cc
def dF (x:XS):List Int:=aN x.op x.w x.ab x.ae x.aa x.af x.aq x.cc
theorem ky:∀n:Fin 32,1≤aF (n.val:Int)∧aF (n.val:Int)≤11:=by decide+kernel
theorem zw {k:Int} (k0:0≤k) (k1:k≤31):aF k=1∨aF k=2∨aF k=3∨aF k=4∨aF k=5∨aF k=6∨aF k=7∨aF k=8∨aF k=9∨aF k=10∨aF k=11:=by
 have:=ky ⟨k.toNat,by omega⟩
 have e:((⟨k.toNat,by omega⟩:Fin 32).val:Int)=k:=by simp;omega
 rw [e] at this
 omega
theorem ND {k:Int} (k0:0≤k) (k1:k≤31):YO.i8.wrap k=k:=by rw [dJ];omega
theorem D6 {b:List Int} (hb:du b) {s:aM} (h:k7 b=some s):0≤s.code∧s.code≤255∧(s.high=0∨s.high=8):=by
 have code:∀ {w R M:Int} {u:List Int},du u→(M=0∨M=8)→hO w R M u=some s→0≤s.code∧s.code≤255∧(s.high=0∨s.high=8):=by
  intro w R M u hu hM h
  match u,hu with
  | [],_=>cases h
  |c::v,hu=>
   obtain ⟨⟨c0,c1⟩,hv⟩:=fH.1 hu
   by_cases hc:c=15
   ·subst hc
    match v,hv,h with
    | [],_,h=>rw [show hO w R M [15]=some (bH w R M false 15 []) from rfl] at h;cases h;exact ⟨by simp [bH],by simp [bH],hM⟩
    |d::z,hv,h=>rw [iw] at h;cases h;exact ⟨(hv d (by simp)).1,(hv d (by simp)).2,hM⟩
   ·rw [dQ hc] at h;cases h;exact ⟨c0,c1,hM⟩
 have zR:∀ {w:Int} {u:List Int},du u→gK w u=some s→0≤s.code∧s.code≤255∧(s.high=0∨s.high=8):=by
  intro w u hu h
  match u,hu with
  | [],_=>cases h
  |c::v,hu=>
   by_cases hq:kr c=true
   ·simp only [gK,if_pos hq] at h
    exact code (fH.1 hu).2 (by omega) h
   ·simp only [gK,if_neg hq] at h
    exact code hu (.inl rfl) h
 unfold k7 at h
 split at h
 ·exact zR (fun x hx=>hb x (List.mem_of_mem_drop hx)) h
 ·exact zR hb h
def kh (b:List Int) (x:XS):Bool:=rp x&&(dF x).isPrefixOf b
def gd (b:List Int) (s:aM):List Int→Option XS
  | []=>none
  |k::r=>if kh b (fM s k) then some (fM s k) else gd b s r
def lN (b:List Int):Option XS:=if kh b (td b) then some (td b) else none
theorem pr {b:List Int} {x:XS} (h:kh b x=true):td b=x∧∃s,k7 b=some s∧fM s x.op=x:=by
 unfold kh at h
 rw [Xp,List.isPrefixOf_iff_prefix] at h
 obtain ⟨hm,t,rfl⟩:=h
 exact ⟨Jn hm t,HU hm t⟩
theorem sd {b:List Int} {s:aM} {x:XS} :∀ {l:List Int},gd b s l=some x→kh b x=true
 | [],h=>by cases h
 |k::r,h=>by
  unfold gd at h
  split at h
  ·rename_i hf;cases h;exact hf
  ·exact sd h
theorem se {b:List Int} {s:aM} :∀ {l:List Int},gd b s l=none→∀k∈l,kh b (fM s k)=false
 | [],_,k,hk=>by cases hk
 |a::r,h,k,hk=>by
  unfold gd at h
  split at h
  ·cases h
  ·rename_i hf
   rcases Yx.1 hk with rfl|hk
   ·simpa using hf
   ·exact se h k hk
theorem IE {x:XS} (h:rp x=true):x.op∈gR:=by
 have hs:=(ef h).2
 have Tf:aF x.op≠0:=by intro e;rw [e] at hs;simp [br] at hs
 have:=iG Tf
 unfold gR
 simp only [Yx,List.not_mem_nil,or_false]
 exact this
theorem AJ {b:List Int} {s:aM} (hs:k7 b=some s):gd b s gR=lN b:=by
 unfold lN
 cases h:gd b s gR with
 |some x=>
  have hf:=sd h
  rw [(pr hf).1,if_pos hf]
 |none=>
  split
  ·rename_i hf
   obtain ⟨_,s',hs',ha⟩:=pr hf
   rw [hs] at hs'
   obtain rfl:=Option.some.inj hs'
   have So:=IE (by unfold kh at hf;rw [Xp] at hf;exact hf.1)
   have:=se h _ So
   rw [ha,hf] at this
   cases this
  ·rfl
theorem DH {b:List Int} (hs:k7 b=none):lN b=none:=by
 unfold lN
 split
 ·rename_i hf
  obtain ⟨_,s',hs',_⟩:=pr hf
  rw [hs] at hs'
  cases hs'
 ·rfl
theorem B0 (l:List Int):(bD l).all isByte=true:=by simp [bD,isByte]
theorem jX (l:List Int) (n:Nat):((bD l).take n).all isByte=true:=by
 rw [show (bD l).take n=bD (l.take n) by simp [bD,List.map_take]]
 exact B0 _
def jH:List D:= [aj 1,av 137,aj 0,aj 3,av 199,aj 0,aj 1,av 1,aj 0,aj 1,av 9,aj 0,aj 1,av 33,aj 0,aj 1,av 41,aj 0,aj 1,av 49,aj 0,aj 1,av 57,aj 0,aj 1,av 133,aj 0,aj 3,av 129,aj 0,aj 3,av 129,aj 1,aj 3,av 129,aj 4,aj 3,av 129,aj 5,aj 3,av 129,aj 6,aj 3,av 129,aj 7,aj 3,av 247,aj 0,aj 2,av 175,aj 0,aj 4,av 193,aj 4,aj 4,av 193,aj 5,aj 4,av 193,aj 7,aj 5,av 211,aj 4,aj 5,av 211,aj 5,aj 5,av 211,aj 7,aj 5,av 247,aj 3,aj 5,av 247,aj 6,aj 6,av 64,aj 0,aj 7,av 139,aj 0,aj 8,av 137,aj 0,aj 9,av 233,aj 0,aj 10,av 128,aj 0,aj 11,av 195,aj 0,aj 11,av 5,aj 0]
theorem FB (n:Nat) (hn:n<32):(jH.drop (n*3)).take 3= [D.int .i8 (aF (n:Int)),D.int .u8 (bq (n:Int)),D.int .i8 (bW (n:Int))]:=by
 have:n=0∨n=1∨n=2∨n=3∨n=4∨n=5∨n=6∨n=7∨n=8∨n=9∨n=10∨n=11∨n=12∨n=13∨n=14∨n=15∨n=16∨n=17∨n=18∨n=19∨n=20∨n=21∨n=22∨n=23∨n=24∨n=25∨n=26∨n=27∨n=28∨n=29∨n=30∨n=31:=by omega
 rcases this with rfl|rfl|rfl|rfl|rfl|rfl|rfl|rfl|rfl|rfl|rfl|rfl|rfl|rfl|rfl|rfl|rfl|rfl|rfl|rfl|rfl|rfl|rfl|rfl|rfl|rfl|rfl|rfl|rfl|rfl|rfl|rfl<;>rfl
theorem ot {k:Int} (k0:0≤k) (k1:k≤31):jb jH (k.toNat*3) 3 [D.int .i8 (aF k),D.int .u8 (bq k),D.int .i8 (bW k)]:=by
 have h:=FB k.toNat (by omega)
 have e:(k.toNat:Int)=k:=by omega
 rw [e] at h
 refine ⟨h,?_⟩
 have hl:jH.length=96:=rfl
 rw [hl]
 omega
theorem JN {l:List Int} (h:kQ l):du l:=by
 intro x hx
 exact h x hx
theorem pW {x:XS} (h:rp x=true):du (dF x):=JN (xa h)
theorem Li {own b:List Int} (ho:du own) (hb:du b):(own.isPrefixOf b=true↔((bD own).length:Int)≤((bD b).length:Int)∧((gk (bD own)).toList==(gk (List.take (Xi ((Xj (bD own):Nat):Int)) (bD b))).toList)=true):=by
 rw [List.isPrefixOf_iff_prefix,List.prefix_iff_eq_take,aK,aK,Int.toNat_natCast,show (bD b).take own.length=bD (b.take own.length) by simp [bD,List.map_take],ck]
 constructor
 ·intro h
  refine ⟨?_,by rw [← h]⟩
  have:=congrArg Xj h
  rw [List.length_take] at this
  omega
 ·rintro ⟨_,h2⟩
  exact JB ho (fun x hx=>hb x (List.mem_of_mem_take hx)) h2
theorem ym {n:Nat} (hn:n<32):gR.drop n=(n:Int)::gR.drop (n+1):=by
 have:n=0∨n=1∨n=2∨n=3∨n=4∨n=5∨n=6∨n=7∨n=8∨n=9∨n=10∨n=11∨n=12∨n=13∨n=14∨n=15∨n=16∨n=17∨n=18∨n=19∨n=20∨n=21∨n=22∨n=23∨n=24∨n=25∨n=26∨n=27∨n=28∨n=29∨n=30∨n=31:=by omega
 rcases this with rfl|rfl|rfl|rfl|rfl|rfl|rfl|rfl|rfl|rfl|rfl|rfl|rfl|rfl|rfl|rfl|rfl|rfl|rfl|rfl|rfl|rfl|rfl|rfl|rfl|rfl|rfl|rfl|rfl|rfl|rfl|rfl<;>rfl
theorem Nr (s:aM) (k:Int):(fM s k).op=k:=by
 simp only [fM,mu,apply_ite XS.op,ite_self]
def HB:Option XS→D
  |none=> .aQ [xD 0 0 0 0 0 0 0 0,.int .i64 0,.int .i64 30]
  |some x=> .aQ [lV x,.int .i64 (dF x).length,.int .i64 0]
end Go.Ev
namespace Go.Proofs.YtbfpahigdpigpaaGreat
open Go Go.Ev
theorem C4 (s:aM) (k:Int) (k0:0≤k) (k1:k≤31) (v0:0≤s.code) (v1:s.code≤255) (hh:s.high=0∨s.high=8) (z0 z1 z2 z3 z4 z5 z6 z8 z9:Ob):
  ak Xh 143 [.ptr false 7 0,aj (YO.i8.wrap k),.agg [aj (aF k),av (bq k),aj (bW k)]]
   [z0,z1,z2,z3,z4,z5,z6,au [aj s.w,ax s.fw,av s.code,aj s.r,aj s.m,ao s.af,ao s.aq,ao s.small,ao s.gi,ao s.gL,aj s.high],z8,z9] (lV (fM s k))
   [z0,z1,z2,z3,z4,z5,z6,au [aj s.w,ax s.fw,av s.code,aj s.r,aj s.m,ao s.af,ao s.aq,ao s.small,ao s.gi,ao s.gL,aj s.high],z8,z9,aA,aA,aA]:=by
 have hw:=ND k0 k1
 have fin:∀ {sh:Int} {d:D} {S1 S2:List Ob},aF k=sh→ak Xh 143 [.ptr false 7 0,aj (YO.i8.wrap k),.agg [aj sh,av (bq k),aj (bW k)]] S1 d S2→d=lV (fM s k)→
   ak Xh 143 [.ptr false 7 0,aj (YO.i8.wrap k),.agg [aj (aF k),av (bq k),aj (bW k)]] S1 (lV (fM s k)) S2:=by
  intro sh d S1 S2 e h hd
  rw [e,← hd]
  exact h
 rcases zw k0 k1 with h|h|h|h|h|h|h|h|h|h|h
 ·exact fin h (Nw s k k0 k1 v0 v1 _ _ z0 z1 z2 z3 z4 z5 z6 z8 z9) (by simp [fM,mu,lV,h,hw])
 ·exact fin h (Nv s k k0 k1 v0 v1 _ _ z0 z1 z2 z3 z4 z5 z6 z8 z9) (by simp [fM,mu,lV,h,hw])
 ·by_cases hk:k=1
  ·by_cases hc:s.code<184
   ·exact fin h (Lz s k k0 k1 v0 v1 _ _ z0 z1 z2 z3 z4 z5 z6 z8 z9 hk hc) (by simp [fM,mu,lV,h,hw];rw [if_neg (by omega)];simp)
   ·by_cases hd:s.code<192
    ·exact fin h (Ly s k k0 k1 v0 v1 _ _ z0 z1 z2 z3 z4 z5 z6 z8 z9 hk (by omega) hd hh) (by simp [fM,mu,lV,h,hw];rw [if_pos (by omega)];simp)
    ·exact fin h (LA s k k0 k1 v0 v1 _ _ z0 z1 z2 z3 z4 z5 z6 z8 z9 hk (by omega)) (by simp [fM,mu,lV,h,hw];rw [if_neg (by omega)];simp)
  ·exact fin h (Lx s k k0 k1 v0 v1 _ _ z0 z1 z2 z3 z4 z5 z6 z8 z9 hk) (by simp [fM,mu,lV,h,hw,hk])
 ·exact fin h (Nu s k k0 k1 v0 v1 _ _ z0 z1 z2 z3 z4 z5 z6 z8 z9) (by simp [fM,mu,lV,h,hw])
 ·exact fin h (Nt s k k0 k1 v0 v1 _ _ z0 z1 z2 z3 z4 z5 z6 z8 z9) (by simp [fM,mu,lV,h,hw])
 ·exact fin h (Ns s k k0 k1 v0 v1 _ _ z0 z1 z2 z3 z4 z5 z6 z8 z9) (by simp [fM,mu,lV,h,hw])
 ·cases hl:s.fw
  ·refine fin h (hl▸Lw s k k0 k1 v0 v1 _ _ z0 z1 z2 z3 z4 z5 z6 z8 z9 hl) (by simp [fM,mu,lV,h,hw,hl])
  ·refine fin h (hl▸Lv s k k0 k1 v0 v1 _ _ z0 z1 z2 z3 z4 z5 z6 z8 z9 hl) (by simp [fM,mu,lV,h,hw,hl])
 ·by_cases hc:s.code=136
  ·exact fin h (Lt s k k0 k1 v0 v1 _ _ z0 z1 z2 z3 z4 z5 z6 z8 z9 hc) (by simp [fM,mu,lV,h,hw,hc])
  ·exact fin h (Lu s k k0 k1 v0 v1 _ _ z0 z1 z2 z3 z4 z5 z6 z8 z9 hc) (by simp [fM,mu,lV,h,hw,hc])
 ·cases hl:s.fw
  ·by_cases hc:s.code=233
   ·exact fin h (hl▸Lr s k k0 k1 v0 v1 _ _ z0 z1 z2 z3 z4 z5 z6 z8 z9 hl hc) (by simp [fM,mu,lV,h,hw,hc])
   ·exact fin h (hl▸Lq s k k0 k1 v0 v1 _ _ z0 z1 z2 z3 z4 z5 z6 z8 z9 hl hc) (by simp [fM,mu,lV,h,hw,hl,hc])
  ·exact fin h (hl▸Ls s k k0 k1 v0 v1 _ _ z0 z1 z2 z3 z4 z5 z6 z8 z9 hl) (by simp [fM,mu,lV,h,hw,hl])
 ·cases hl:s.fw
  ·by_cases hc:s.code=233
   ·exact fin h (hl▸JD s k k0 k1 v0 v1 _ _ z0 z1 z2 z3 z4 z5 z6 z8 z9 hl hc) (by simp [fM,mu,lV,h,hw,hc])
   ·exact fin h (hl▸JC s k k0 k1 v0 v1 _ _ z0 z1 z2 z3 z4 z5 z6 z8 z9 hl hc) (by simp [fM,mu,lV,h,hw,hl,hc])
  ·exact fin h (hl▸JE s k k0 k1 v0 v1 _ _ z0 z1 z2 z3 z4 z5 z6 z8 z9 hl) (by simp [fM,mu,lV,h,hw,hl])
 ·exact fin h (LB s k k0 k1 v0 v1 _ _ z0 z1 z2 z3 z4 z5 z6 z8 z9) (by simp [fM,mu,lV,h,hw])
def ct:List D:= [aj 1,av 137,aj 0,aj 3,av 199,aj 0,aj 1,av 1,aj 0,aj 1,av 9,aj 0,aj 1,av 33,aj 0,aj 1,av 41,aj 0,aj 1,av 49,aj 0,aj 1,av 57,aj 0,aj 1,av 133,aj 0,aj 3,av 129,aj 0,aj 3,av 129,aj 1,aj 3,av 129,aj 4,aj 3,av 129,aj 5,aj 3,av 129,aj 6,aj 3,av 129,aj 7,aj 3,av 247,aj 0,aj 2,av 175,aj 0,aj 4,av 193,aj 4,aj 4,av 193,aj 5,aj 4,av 193,aj 7,aj 5,av 211,aj 4,aj 5,av 211,aj 5,aj 5,av 211,aj 7,aj 5,av 247,aj 3,aj 5,av 247,aj 6,aj 6,av 64,aj 0,aj 7,av 139,aj 0,aj 8,av 137,aj 0,aj 9,av 233,aj 0,aj 10,av 128,aj 0,aj 11,av 195,aj 0,aj 11,av 5,aj 0]
def ep (Q3:Int):Prop:=aY Xh 73 ([aj Q3]) (.aQ [.agg [aj (aF Q3),av (bq Q3),aj (bW Q3)],ax true])
theorem KR:ep 0:=(mK (d:= .aQ [.agg [aj 1,av 137,aj 0],ax true]) [aW,tT,tT,tT,tF,tF,tT,.fX ct 0 3 ([aj 1,av 137,aj 0]) ⟨rfl,by decide⟩]).to (by simp [aI];decide)
theorem KQ:ep 1:=(mK (d:= .aQ [.agg [aj 3,av 199,aj 0],ax true]) [aW,tT,tT,tT,tF,tF,tT,.fX ct 3 3 ([aj 3,av 199,aj 0]) ⟨rfl,by decide⟩]).to (by simp [aI];decide)
theorem KP:ep 2:=(mK (d:= .aQ [.agg [aj 1,av 1,aj 0],ax true]) [aW,tT,tT,tT,tF,tF,tT,.fX ct 6 3 ([aj 1,av 1,aj 0]) ⟨rfl,by decide⟩]).to (by simp [aI];decide)
theorem KO:ep 3:=(mK (d:= .aQ [.agg [aj 1,av 9,aj 0],ax true]) [aW,tT,tT,tT,tF,tF,tT,.fX ct 9 3 ([aj 1,av 9,aj 0]) ⟨rfl,by decide⟩]).to (by simp [aI];decide)
theorem KN:ep 4:=(mK (d:= .aQ [.agg [aj 1,av 33,aj 0],ax true]) [aW,tT,tT,tT,tF,tF,tT,.fX ct 12 3 ([aj 1,av 33,aj 0]) ⟨rfl,by decide⟩]).to (by simp [aI];decide)
theorem KM:ep 5:=(mK (d:= .aQ [.agg [aj 1,av 41,aj 0],ax true]) [aW,tT,tT,tT,tF,tF,tT,.fX ct 15 3 ([aj 1,av 41,aj 0]) ⟨rfl,by decide⟩]).to (by simp [aI];decide)
theorem KL:ep 6:=(mK (d:= .aQ [.agg [aj 1,av 49,aj 0],ax true]) [aW,tT,tT,tT,tF,tF,tT,.fX ct 18 3 ([aj 1,av 49,aj 0]) ⟨rfl,by decide⟩]).to (by simp [aI];decide)
theorem KK:ep 7:=(mK (d:= .aQ [.agg [aj 1,av 57,aj 0],ax true]) [aW,tT,tT,tT,tF,tF,tT,.fX ct 21 3 ([aj 1,av 57,aj 0]) ⟨rfl,by decide⟩]).to (by simp [aI];decide)
theorem KJ:ep 8:=(mK (d:= .aQ [.agg [aj 1,av 133,aj 0],ax true]) [aW,tT,tT,tT,tF,tF,tT,.fX ct 24 3 ([aj 1,av 133,aj 0]) ⟨rfl,by decide⟩]).to (by simp [aI];decide)
theorem KI:ep 9:=(mK (d:= .aQ [.agg [aj 3,av 129,aj 0],ax true]) [aW,tT,tT,tT,tF,tF,tT,.fX ct 27 3 ([aj 3,av 129,aj 0]) ⟨rfl,by decide⟩]).to (by simp [aI];decide)
theorem Iu:ep 10:=(mK (d:= .aQ [.agg [aj 3,av 129,aj 1],ax true]) [aW,tT,tT,tT,tF,tF,tT,.fX ct 30 3 ([aj 3,av 129,aj 1]) ⟨rfl,by decide⟩]).to (by simp [aI];decide)
theorem It:ep 11:=(mK (d:= .aQ [.agg [aj 3,av 129,aj 4],ax true]) [aW,tT,tT,tT,tF,tF,tT,.fX ct 33 3 ([aj 3,av 129,aj 4]) ⟨rfl,by decide⟩]).to (by simp [aI];decide)
theorem Ir:ep 12:=(mK (d:= .aQ [.agg [aj 3,av 129,aj 5],ax true]) [aW,tT,tT,tT,tF,tF,tT,.fX ct 36 3 ([aj 3,av 129,aj 5]) ⟨rfl,by decide⟩]).to (by simp [aI];decide)
theorem Iq:ep 13:=(mK (d:= .aQ [.agg [aj 3,av 129,aj 6],ax true]) [aW,tT,tT,tT,tF,tF,tT,.fX ct 39 3 ([aj 3,av 129,aj 6]) ⟨rfl,by decide⟩]).to (by simp [aI];decide)
theorem Ip:ep 14:=(mK (d:= .aQ [.agg [aj 3,av 129,aj 7],ax true]) [aW,tT,tT,tT,tF,tF,tT,.fX ct 42 3 ([aj 3,av 129,aj 7]) ⟨rfl,by decide⟩]).to (by simp [aI];decide)
theorem Io:ep 15:=(mK (d:= .aQ [.agg [aj 3,av 247,aj 0],ax true]) [aW,tT,tT,tT,tF,tF,tT,.fX ct 45 3 ([aj 3,av 247,aj 0]) ⟨rfl,by decide⟩]).to (by simp [aI];decide)
theorem Im:ep 16:=(mK (d:= .aQ [.agg [aj 2,av 175,aj 0],ax true]) [aW,tT,tT,tT,tF,tF,tT,.fX ct 48 3 ([aj 2,av 175,aj 0]) ⟨rfl,by decide⟩]).to (by simp [aI];decide)
theorem Il:ep 17:=(mK (d:= .aQ [.agg [aj 4,av 193,aj 4],ax true]) [aW,tT,tT,tT,tF,tF,tT,.fX ct 51 3 ([aj 4,av 193,aj 4]) ⟨rfl,by decide⟩]).to (by simp [aI];decide)
theorem Ik:ep 18:=(mK (d:= .aQ [.agg [aj 4,av 193,aj 5],ax true]) [aW,tT,tT,tT,tF,tF,tT,.fX ct 54 3 ([aj 4,av 193,aj 5]) ⟨rfl,by decide⟩]).to (by simp [aI];decide)
theorem Ij:ep 19:=(mK (d:= .aQ [.agg [aj 4,av 193,aj 7],ax true]) [aW,tT,tT,tT,tF,tF,tT,.fX ct 57 3 ([aj 4,av 193,aj 7]) ⟨rfl,by decide⟩]).to (by simp [aI];decide)
theorem Ii:ep 20:=(mK (d:= .aQ [.agg [aj 5,av 211,aj 4],ax true]) [aW,tT,tT,tT,tF,tF,tT,.fX ct 60 3 ([aj 5,av 211,aj 4]) ⟨rfl,by decide⟩]).to (by simp [aI];decide)
theorem Ih:ep 21:=(mK (d:= .aQ [.agg [aj 5,av 211,aj 5],ax true]) [aW,tT,tT,tT,tF,tF,tT,.fX ct 63 3 ([aj 5,av 211,aj 5]) ⟨rfl,by decide⟩]).to (by simp [aI];decide)
theorem Ig:ep 22:=(mK (d:= .aQ [.agg [aj 5,av 211,aj 7],ax true]) [aW,tT,tT,tT,tF,tF,tT,.fX ct 66 3 ([aj 5,av 211,aj 7]) ⟨rfl,by decide⟩]).to (by simp [aI];decide)
theorem Ie:ep 23:=(mK (d:= .aQ [.agg [aj 5,av 247,aj 3],ax true]) [aW,tT,tT,tT,tF,tF,tT,.fX ct 69 3 ([aj 5,av 247,aj 3]) ⟨rfl,by decide⟩]).to (by simp [aI];decide)
theorem Ic:ep 24:=(mK (d:= .aQ [.agg [aj 5,av 247,aj 6],ax true]) [aW,tT,tT,tT,tF,tF,tT,.fX ct 72 3 ([aj 5,av 247,aj 6]) ⟨rfl,by decide⟩]).to (by simp [aI];decide)
theorem Ib:ep 25:=(mK (d:= .aQ [.agg [aj 6,av 64,aj 0],ax true]) [aW,tT,tT,tT,tF,tF,tT,.fX ct 75 3 ([aj 6,av 64,aj 0]) ⟨rfl,by decide⟩]).to (by simp [aI];decide)
theorem Ia:ep 26:=(mK (d:= .aQ [.agg [aj 7,av 139,aj 0],ax true]) [aW,tT,tT,tT,tF,tF,tT,.fX ct 78 3 ([aj 7,av 139,aj 0]) ⟨rfl,by decide⟩]).to (by simp [aI];decide)
theorem H9:ep 27:=(mK (d:= .aQ [.agg [aj 8,av 137,aj 0],ax true]) [aW,tT,tT,tT,tF,tF,tT,.fX ct 81 3 ([aj 8,av 137,aj 0]) ⟨rfl,by decide⟩]).to (by simp [aI];decide)
theorem H8:ep 28:=(mK (d:= .aQ [.agg [aj 9,av 233,aj 0],ax true]) [aW,tT,tT,tT,tF,tF,tT,.fX ct 84 3 ([aj 9,av 233,aj 0]) ⟨rfl,by decide⟩]).to (by simp [aI];decide)
theorem H7:ep 29:=(mK (d:= .aQ [.agg [aj 10,av 128,aj 0],ax true]) [aW,tT,tT,tT,tF,tF,tT,.fX ct 87 3 ([aj 10,av 128,aj 0]) ⟨rfl,by decide⟩]).to (by simp [aI];decide)
theorem H6:ep 30:=(mK (d:= .aQ [.agg [aj 11,av 195,aj 0],ax true]) [aW,tT,tT,tT,tF,tF,tT,.fX ct 90 3 ([aj 11,av 195,aj 0]) ⟨rfl,by decide⟩]).to (by simp [aI];decide)
theorem H5:ep 31:=(mK (d:= .aQ [.agg [aj 11,av 5,aj 0],ax true]) [aW,tT,tT,tT,tF,tF,tT,.fX ct 93 3 ([aj 11,av 5,aj 0]) ⟨rfl,by decide⟩]).to (by simp [aI];decide)
theorem Eu (op:Int) (h:op<0):aY Xh 73 ([aj op]) (.aQ [.agg [aj 0,av 0,aj 0],ax false]):=(mK (d:= .aQ [.agg [aj 0,av 0,aj 0],ax false]) ([aW]++Xg 3 (tC (eF (bT h)))++ [tC (bT h),tT])).to (by simp [aI])
theorem Al (op:Int) (h:32≤op) (ho:op≤127):aY Xh 73 ([aj op]) (.aQ [.agg [aj 0,av 0,aj 0],ax false]):=(mK (d:= .aQ [.agg [aj 0,av 0,aj 0],ax false]) ([aW]++Xg 3 (tC (eF (lR 0 (bg (Xk.2 h)))))++ [tC (lR 0 (bg (Xk.2 h))),tC (bO 32 (by (simp only [cY] at*;omega):(decide (YO.wrap YO.i64 op<32))=false))])).to (by simp [aI])
theorem ea (n:Int):aY Xh 99 ([aj n]) (ax (aL n)):=by
 rcases cQ (decide (n<0)) with h0|h0
 ·exact (PR (d:= .bool false) [tC (eT (bO 0 h0)),tC (eT (bO 0 h0)),tC (bO 0 h0)]).to (by (try simp only [cj,aC,aL,bB,ay,aE] at*);first|(simp [aC,aL,bB,ay,aE, *];done)|(simp [aC,aL,bB,ay,aE, *];omega)|(rw [Xn];simp [aC,aL,bB,ay,aE, *];done)|(rw [Xn];simp [aC,aL,bB,ay,aE, *];omega)|(rw [Xn];simp [aC,aL,bB,ay,aE, *];grind)|(subst_vars;rw [Xn];simp;grind))
 exact (PR (d:= .bool (decide (n<16))) [tC (eT (bO 0 h0)),tC (eT (bO 0 h0)),tC (bO 0 h0)]).to (by (try simp only [cj,aC,aL,bB,ay,aE] at*);first|(simp [aC,aL,bB,ay,aE, *];done)|(simp [aC,aL,bB,ay,aE, *];omega)|(rw [Xn];simp [aC,aL,bB,ay,aE, *];done)|(rw [Xn];simp [aC,aL,bB,ay,aE, *];omega)|(rw [Xn];simp [aC,aL,bB,ay,aE, *];grind)|(subst_vars;rw [Xn];simp;grind))
theorem qw (n:Int):aY Xh 101 ([aj n]) (ax (bB n)):=by
 rcases cQ (decide (n<2)) with h0|h0
 ·exact (KU (d:= .bool false) [tC (eT (bO 2 h0)),tC (eT (bO 2 h0)),tC (bO 2 h0),tT,tT,tT,tC (eT (bO 12 (sG 12 h0))),tC (eT (bO 12 (sG 12 h0))),tT,tC (bO 12 (sG 12 h0)),tF]).to (by (try simp only [cj,aC,aL,bB,ay,aE] at*);first|(simp [aC,aL,bB,ay,aE, *];done)|(simp [aC,aL,bB,ay,aE, *];omega)|(rw [Xn];simp [aC,aL,bB,ay,aE, *];done)|(rw [Xn];simp [aC,aL,bB,ay,aE, *];omega)|(rw [Xn];simp [aC,aL,bB,ay,aE, *];grind)|(subst_vars;rw [Xn];simp;grind))
 let E1:EL:= [tC (eT (bO 2 h0)),tC (eT (bO 2 h0)),tC (bO 2 h0)]
 rcases cQ (decide (n<8)) with h1|h1
 ·exact (KU (d:= .bool true) (E1++Xg 4 (tC (eF (eB 7 h1)))++ [tC (eB 7 h1)])).to (by clear E1;(try simp only [cj,aC,aL,bB,ay,aE] at*);first|(simp [aC,aL,bB,ay,aE, *];done)|(simp [aC,aL,bB,ay,aE, *];omega)|(rw [Xn];simp [aC,aL,bB,ay,aE, *];done)|(rw [Xn];simp [aC,aL,bB,ay,aE, *];omega)|(rw [Xn];simp [aC,aL,bB,ay,aE, *];grind)|(subst_vars;rw [Xn];simp;grind))
 rcases cQ (decide (n<12)) with h2|h2
 ·exact (KU (d:= .bool false) (E1++Xg 3 (tC (eF (eB 7 h1)))++ [tC (eT (bO 12 h2)),tC (eT (bO 12 h2)),tC (eF (eB 7 h1)),tC (bO 12 h2),tC (eB 7 h1)])).to (by clear E1;(try simp only [cj,aC,aL,bB,ay,aE] at*);first|(simp [aC,aL,bB,ay,aE, *];done)|(simp [aC,aL,bB,ay,aE, *];omega)|(rw [Xn];simp [aC,aL,bB,ay,aE, *];done)|(rw [Xn];simp [aC,aL,bB,ay,aE, *];omega)|(rw [Xn];simp [aC,aL,bB,ay,aE, *];grind)|(subst_vars;rw [Xn];simp;grind))
 exact (KU (d:= .bool (decide (n≤15))) (E1++Xg 3 (tC (eF (eB 7 h1)))++ [tC (eT (bO 12 h2)),tC (eT (bO 12 h2)),tC (eF (eB 7 h1)),tC (bO 12 h2),tC (eB 7 h1)])).to (by clear E1;(try simp only [cj,aC,aL,bB,ay,aE] at*);first|(simp [aC,aL,bB,ay,aE, *];done)|(simp [aC,aL,bB,ay,aE, *];omega)|(rw [Xn];simp [aC,aL,bB,ay,aE, *];done)|(rw [Xn];simp [aC,aL,bB,ay,aE, *];omega)|(rw [Xn];simp [aC,aL,bB,ay,aE, *];grind)|(subst_vars;rw [Xn];simp;grind))
theorem b9 (n a b:Int):aY Xh 100 ([ao n,ao a,ao b]) (ax (decide (a≤n)&&decide (n≤b))):=by
 rcases cQ (decide (n≥a)) with h0|h0
 ·exact (Oc (d:= .bool (decide (n≤b))) [tC (eT h0),tC (eT h0),tC (eT h0),tC h0]).to (by (try simp only [cj,aC,aL,bB,ay,aE] at*);(simp [aC,aL,bB,ay,aE, *];done))
 exact (Oc (d:= .bool false) [tC (eT h0),tC (eT h0),tC (eT h0),tC h0]).to (by (try simp only [cj,aC,aL,bB,ay,aE] at*);(simp [aC,aL,bB,ay,aE, *];done))
theorem kT (n:Int):aY Xh 102 ([aj n]) (ax (ay n)):=by
 by_cases h0:n=8
 ·subst h0
  exact (Iw (d:= .bool true) [tT,tT]).to (by (try simp only [cj,aC,aL,bB,ay,aE] at*);(simp [aC,aL,bB,ay,aE, *];done))
 by_cases h1:n=16
 ·subst h1
  exact (Iw (d:= .bool true) [tC (aH h0),tT,tT]).to (by (try simp only [cj,aC,aL,bB,ay,aE] at*);(simp [aC,aL,bB,ay,aE, *];done))
 by_cases h2:n=32
 ·subst h2
  exact (Iw (d:= .bool true) [tC (aH h0),tC (aH h1),tT,tT]).to (by (try simp only [cj,aC,aL,bB,ay,aE] at*);(simp [aC,aL,bB,ay,aE, *];done))
 by_cases h3:n=64
 ·subst h3
  exact (Iw (d:= .bool true) [tC (aH h0),tC (aH h1),tC (aH h2),tT]).to (by (try simp only [cj,aC,aL,bB,ay,aE] at*);(simp [aC,aL,bB,ay,aE, *];done))
 exact (Iw (d:= .bool false) [tC (aH h0),tC (aH h1),tC (aH h2),tC (aH h3)]).to (by (try simp only [cj,aC,aL,bB,ay,aE] at*);(simp [aC,aL,bB,ay,aE, *];done))
theorem dy (n:Int):aY Xh 61 ([aj n]) (ax (aL n)):=by
 rcases cQ (decide (n<0)) with h0|h0
 ·exact (PX (d:= .bool false) [tC (eT (bO 0 h0)),tC (eT (bO 0 h0)),tC (bO 0 h0)]).to (by (try simp only [cj,aC,aL,bB,ay,aE] at*);first|(simp [aC,aL,bB,ay,aE, *];done)|(simp [aC,aL,bB,ay,aE, *];omega)|(rw [Xn];simp [aC,aL,bB,ay,aE, *];done)|(rw [Xn];simp [aC,aL,bB,ay,aE, *];omega)|(rw [Xn];simp [aC,aL,bB,ay,aE, *];grind)|(subst_vars;rw [Xn];simp;grind))
 exact (PX (d:= .bool (decide (n<16))) [tC (eT (bO 0 h0)),tC (eT (bO 0 h0)),tC (bO 0 h0)]).to (by (try simp only [cj,aC,aL,bB,ay,aE] at*);first|(simp [aC,aL,bB,ay,aE, *];done)|(simp [aC,aL,bB,ay,aE, *];omega)|(rw [Xn];simp [aC,aL,bB,ay,aE, *];done)|(rw [Xn];simp [aC,aL,bB,ay,aE, *];omega)|(rw [Xn];simp [aC,aL,bB,ay,aE, *];grind)|(subst_vars;rw [Xn];simp;grind))
theorem z7 (n:Int):aY Xh 64 ([aj n]) (ax (bB n)):=by
 rcases cQ (decide (n<2)) with h0|h0
 ·exact (O0 (d:= .bool false) [tC (eT (bO 2 h0)),tC (eT (bO 2 h0)),tC (bO 2 h0),tT,tT,tT,tC (eT (bO 12 (sG 12 h0))),tC (eT (bO 12 (sG 12 h0))),tT,tC (bO 12 (sG 12 h0)),tF]).to (by (try simp only [cj,aC,aL,bB,ay,aE] at*);first|(simp [aC,aL,bB,ay,aE, *];done)|(simp [aC,aL,bB,ay,aE, *];omega)|(rw [Xn];simp [aC,aL,bB,ay,aE, *];done)|(rw [Xn];simp [aC,aL,bB,ay,aE, *];omega)|(rw [Xn];simp [aC,aL,bB,ay,aE, *];grind)|(subst_vars;rw [Xn];simp;grind))
 let E1:EL:= [tC (eT (bO 2 h0)),tC (eT (bO 2 h0)),tC (bO 2 h0)]
 rcases cQ (decide (n<8)) with h1|h1
 ·exact (O0 (d:= .bool true) (E1++Xg 4 (tC (eF (eB 7 h1)))++ [tC (eB 7 h1)])).to (by clear E1;(try simp only [cj,aC,aL,bB,ay,aE] at*);first|(simp [aC,aL,bB,ay,aE, *];done)|(simp [aC,aL,bB,ay,aE, *];omega)|(rw [Xn];simp [aC,aL,bB,ay,aE, *];done)|(rw [Xn];simp [aC,aL,bB,ay,aE, *];omega)|(rw [Xn];simp [aC,aL,bB,ay,aE, *];grind)|(subst_vars;rw [Xn];simp;grind))
 rcases cQ (decide (n<12)) with h2|h2
 ·exact (O0 (d:= .bool false) (E1++Xg 3 (tC (eF (eB 7 h1)))++ [tC (eT (bO 12 h2)),tC (eT (bO 12 h2)),tC (eF (eB 7 h1)),tC (bO 12 h2),tC (eB 7 h1)])).to (by clear E1;(try simp only [cj,aC,aL,bB,ay,aE] at*);first|(simp [aC,aL,bB,ay,aE, *];done)|(simp [aC,aL,bB,ay,aE, *];omega)|(rw [Xn];simp [aC,aL,bB,ay,aE, *];done)|(rw [Xn];simp [aC,aL,bB,ay,aE, *];omega)|(rw [Xn];simp [aC,aL,bB,ay,aE, *];grind)|(subst_vars;rw [Xn];simp;grind))
 exact (O0 (d:= .bool (decide (n≤15))) (E1++Xg 3 (tC (eF (eB 7 h1)))++ [tC (eT (bO 12 h2)),tC (eT (bO 12 h2)),tC (eF (eB 7 h1)),tC (bO 12 h2),tC (eB 7 h1)])).to (by clear E1;(try simp only [cj,aC,aL,bB,ay,aE] at*);first|(simp [aC,aL,bB,ay,aE, *];done)|(simp [aC,aL,bB,ay,aE, *];omega)|(rw [Xn];simp [aC,aL,bB,ay,aE, *];done)|(rw [Xn];simp [aC,aL,bB,ay,aE, *];omega)|(rw [Xn];simp [aC,aL,bB,ay,aE, *];grind)|(subst_vars;rw [Xn];simp;grind))
theorem kX (n:Int):aY Xh 63 ([aj n]) (ax (aE n)):=by
 by_cases h0:n=32
 ·subst h0
  exact (PV (d:= .bool true) [tF,tF,tT]).to (by (try simp only [cj,aC,aL,bB,ay,aE] at*);first|(simp [aC,aL,bB,ay,aE, *];done)|(simp [aC,aL,bB,ay,aE, *];omega)|(rw [Xn];simp [aC,aL,bB,ay,aE, *];done)|(rw [Xn];simp [aC,aL,bB,ay,aE, *];omega)|(rw [Xn];simp [aC,aL,bB,ay,aE, *];grind)|(subst_vars;rw [Xn];simp;grind))
 exact (PV (d:= .bool (n==64)) [tC (eF (aH h0)),tC (eF (aH h0)),tC (aH h0)]).to (by (try simp only [cj,aC,aL,bB,ay,aE] at*);first|(simp [aC,aL,bB,ay,aE, *];done)|(simp [aC,aL,bB,ay,aE, *];omega)|(rw [Xn];simp [aC,aL,bB,ay,aE, *];done)|(rw [Xn];simp [aC,aL,bB,ay,aE, *];omega)|(rw [Xn];simp [aC,aL,bB,ay,aE, *];grind)|(subst_vars;rw [Xn];simp;grind))
theorem jU (n:Int):aY Xh 65 ([aj n]) (ax (ay n)):=by
 by_cases h0:n=8
 ·subst h0
  exact (OZ (d:= .bool true) (bK 9 292)).to (by (try simp only [cj,aC,aL,bB,ay,aE] at*);first|(simp [aC,aL,bB,ay,aE, *];done)|(simp [aC,aL,bB,ay,aE, *];omega)|(rw [Xn];simp [aC,aL,bB,ay,aE, *];done)|(rw [Xn];simp [aC,aL,bB,ay,aE, *];omega)|(rw [Xn];simp [aC,aL,bB,ay,aE, *];grind)|(subst_vars;rw [Xn];simp;grind))
 let E1:EL:= [tC (eF (aH h0)),tC (eF (aH h0)),tC (aH h0)]
 by_cases h1:n=16
 ·subst h1
  exact (OZ (d:= .bool true) (E1++ [tF,tF,tT,tF,tF,tT])).to (by clear E1;(try simp only [cj,aC,aL,bB,ay,aE] at*);first|(simp [aC,aL,bB,ay,aE, *];done)|(simp [aC,aL,bB,ay,aE, *];omega)|(rw [Xn];simp [aC,aL,bB,ay,aE, *];done)|(rw [Xn];simp [aC,aL,bB,ay,aE, *];omega)|(rw [Xn];simp [aC,aL,bB,ay,aE, *];grind)|(subst_vars;rw [Xn];simp;grind))
 by_cases h2:n=32
 ·subst h2
  exact (OZ (d:= .bool true) (E1++ [tC (eF (aH h1)),tC (eF (aH h1)),tC (aH h1),tF,tF,tT])).to (by clear E1;(try simp only [cj,aC,aL,bB,ay,aE] at*);first|(simp [aC,aL,bB,ay,aE, *];done)|(simp [aC,aL,bB,ay,aE, *];omega)|(rw [Xn];simp [aC,aL,bB,ay,aE, *];done)|(rw [Xn];simp [aC,aL,bB,ay,aE, *];omega)|(rw [Xn];simp [aC,aL,bB,ay,aE, *];grind)|(subst_vars;rw [Xn];simp;grind))
 exact (OZ (d:= .bool (n==64)) (E1++ [tC (eF (aH h1)),tC (eF (aH h1)),tC (aH h1),tC (eF (aH h2)),tC (eF (aH h2)),tC (aH h2)])).to (by clear E1;(try simp only [cj,aC,aL,bB,ay,aE] at*);first|(simp [aC,aL,bB,ay,aE, *];done)|(simp [aC,aL,bB,ay,aE, *];omega)|(rw [Xn];simp [aC,aL,bB,ay,aE, *];done)|(rw [Xn];simp [aC,aL,bB,ay,aE, *];omega)|(rw [Xn];simp [aC,aL,bB,ay,aE, *];grind)|(subst_vars;rw [Xn];simp;grind))
theorem dU (n:Int):aY Xh 62 ([ao n]) (ax (decide (-2147483648≤n∧n≤2147483647))):=by
 rcases cQ (decide (n<(-2147483648))) with h0|h0
 ·exact (PW (d:= .bool false) [tC (eT (bO (-2147483648) h0)),tC (eT (bO (-2147483648) h0)),tC (bO (-2147483648) h0)]).to (by (try simp only [cj,aC,aL,bB,ay,aE] at*);first|(simp [aC,aL,bB,ay,aE, *];done)|(simp [aC,aL,bB,ay,aE, *];omega)|(rw [Xn];simp [aC,aL,bB,ay,aE, *];done)|(rw [Xn];simp [aC,aL,bB,ay,aE, *];omega)|(rw [Xn];simp [aC,aL,bB,ay,aE, *];grind)|(subst_vars;rw [Xn];simp;grind))
 exact (PW (d:= .bool (decide (n<2147483648))) [tC (eT (bO (-2147483648) h0)),tC (eT (bO (-2147483648) h0)),tC (bO (-2147483648) h0)]).to (by (try simp only [cj,aC,aL,bB,ay,aE] at*);first|(simp [aC,aL,bB,ay,aE, *];done)|(simp [aC,aL,bB,ay,aE, *];omega)|(rw [Xn];simp [aC,aL,bB,ay,aE, *];done)|(rw [Xn];simp [aC,aL,bB,ay,aE, *];omega)|(rw [Xn];simp [aC,aL,bB,ay,aE, *];grind)|(subst_vars;rw [Xn];simp;grind))
theorem Ck (n:Int):aY Xh 66 ([ao n]) (ax (decide (-128≤n∧n≤127))):=by
 rcases cQ (decide (n<(-128))) with h0|h0
 ·exact (PU (d:= .bool false) [tC (eT (bO (-128) h0)),tC (eT (bO (-128) h0)),tC (bO (-128) h0)]).to (by (try simp only [cj,aC,aL,bB,ay,aE] at*);first|(simp [aC,aL,bB,ay,aE, *];done)|(simp [aC,aL,bB,ay,aE, *];omega)|(rw [Xn];simp [aC,aL,bB,ay,aE, *];done)|(rw [Xn];simp [aC,aL,bB,ay,aE, *];omega)|(rw [Xn];simp [aC,aL,bB,ay,aE, *];grind)|(subst_vars;rw [Xn];simp;grind))
 exact (PU (d:= .bool (decide (n<128))) [tC (eT (bO (-128) h0)),tC (eT (bO (-128) h0)),tC (bO (-128) h0)]).to (by (try simp only [cj,aC,aL,bB,ay,aE] at*);first|(simp [aC,aL,bB,ay,aE, *];done)|(simp [aC,aL,bB,ay,aE, *];omega)|(rw [Xn];simp [aC,aL,bB,ay,aE, *];done)|(rw [Xn];simp [aC,aL,bB,ay,aE, *];omega)|(rw [Xn];simp [aC,aL,bB,ay,aE, *];grind)|(subst_vars;rw [Xn];simp;grind))
theorem aR (op:Int):aY Xh 58 ([aj op]) (ao (bz op)):=by
 by_cases h0:op=0
 ·subst h0
  exact (nh (d:= .int .i64 1) [tT,tT]).to (by (simp only [wk,D.int.injEq,ev];decide))
 let E1:EL:= [tC (aH h0)]
 by_cases h1:op=2
 ·subst h1
  exact (nh (d:= .int .i64 1) (E1++ [tT,tT])).to (by (simp only [wk,D.int.injEq,ev];decide))
 let E2:EL:=E1++ [tC (aH h1)]
 by_cases h2:op=3
 ·subst h2
  exact (nh (d:= .int .i64 1) (E2++ [tT,tT])).to (by (simp only [wk,D.int.injEq,ev];decide))
 let E3:EL:=E2++ [tC (aH h2)]
 by_cases h3:op=4
 ·subst h3
  exact (nh (d:= .int .i64 1) (E3++ [tT,tT])).to (by (simp only [wk,D.int.injEq,ev];decide))
 let E4:EL:=E3++ [tC (aH h3)]
 by_cases h4:op=5
 ·subst h4
  exact (nh (d:= .int .i64 1) (E4++ [tT,tT])).to (by (simp only [wk,D.int.injEq,ev];decide))
 let E5:EL:=E4++ [tC (aH h4)]
 by_cases h5:op=6
 ·subst h5
  exact (nh (d:= .int .i64 1) (E5++ [tT,tT])).to (by (simp only [wk,D.int.injEq,ev];decide))
 let E6:EL:=E5++ [tC (aH h5)]
 by_cases h6:op=7
 ·subst h6
  exact (nh (d:= .int .i64 1) (E6++ [tT,tT])).to (by (simp only [wk,D.int.injEq,ev];decide))
 let E7:EL:=E6++ [tC (aH h6)]
 by_cases h7:op=8
 ·subst h7
  exact (nh (d:= .int .i64 1) (E7++ [tT,tT])).to (by (simp only [wk,D.int.injEq,ev];decide))
 let E8:EL:=E7++ [tC (aH h7)]
 by_cases h8:op=16
 ·subst h8
  exact (nh (d:= .int .i64 1) (E8++ [tT])).to (by (simp only [wk,D.int.injEq,ev];decide))
 let E9:EL:=E8++ [tC (aH h8)]
 by_cases h9:op=1
 ·subst h9
  exact (nh (d:= .int .i64 2) (E9++ [tT,tT])).to (by (simp only [wk,D.int.injEq,ev];decide))
 let E10:EL:=E9++ [tC (aH h9)]
 by_cases Sz:op=9
 ·subst Sz
  exact (nh (d:= .int .i64 2) (E10++ [tT,tT])).to (by (simp only [wk,D.int.injEq,ev];decide))
 let E11:EL:=E10++ [tC (aH Sz)]
 by_cases Tx:op=10
 ·subst Tx
  exact (nh (d:= .int .i64 2) (E11++ [tT,tT])).to (by (simp only [wk,D.int.injEq,ev];decide))
 let E12:EL:=E11++ [tC (aH Tx)]
 by_cases Uh:op=11
 ·subst Uh
  exact (nh (d:= .int .i64 2) (E12++ [tT,tT])).to (by (simp only [wk,D.int.injEq,ev];decide))
 let E13:EL:=E12++ [tC (aH Uh)]
 by_cases h13:op=12
 ·subst h13
  exact (nh (d:= .int .i64 2) (E13++ [tT,tT])).to (by (simp only [wk,D.int.injEq,ev];decide))
 let E14:EL:=E13++ [tC (aH h13)]
 by_cases h14:op=13
 ·subst h14
  exact (nh (d:= .int .i64 2) (E14++ [tT,tT])).to (by (simp only [wk,D.int.injEq,ev];decide))
 let E15:EL:=E14++ [tC (aH h14)]
 by_cases h15:op=14
 ·subst h15
  exact (nh (d:= .int .i64 2) (E15++ [tT,tT])).to (by (simp only [wk,D.int.injEq,ev];decide))
 let E16:EL:=E15++ [tC (aH h15)]
 by_cases h16:op=15
 ·subst h16
  exact (nh (d:= .int .i64 2) (E16++ [tT])).to (by (simp only [wk,D.int.injEq,ev];decide))
 let E17:EL:=E16++ [tC (aH h16)]
 by_cases h17:op=17
 ·subst h17
  exact (nh (d:= .int .i64 3) (E17++ [tT,tT])).to (by (simp only [wk,D.int.injEq,ev];decide))
 let E18:EL:=E17++ [tC (aH h17)]
 by_cases h18:op=18
 ·subst h18
  exact (nh (d:= .int .i64 3) (E18++ [tT,tT])).to (by (simp only [wk,D.int.injEq,ev];decide))
 let E19:EL:=E18++ [tC (aH h18)]
 by_cases h19:op=19
 ·subst h19
  exact (nh (d:= .int .i64 3) (E19++ [tT])).to (by (simp only [wk,D.int.injEq,ev];decide))
 let E20:EL:=E19++ [tC (aH h19)]
 by_cases h20:op=20
 ·subst h20
  exact (nh (d:= .int .i64 4) (E20++ [tT,tT])).to (by (simp only [wk,D.int.injEq,ev];decide))
 let E21:EL:=E20++ [tC (aH h20)]
 by_cases h21:op=21
 ·subst h21
  exact (nh (d:= .int .i64 4) (E21++ [tT,tT])).to (by (simp only [wk,D.int.injEq,ev];decide))
 let E22:EL:=E21++ [tC (aH h21)]
 by_cases h22:op=22
 ·subst h22
  exact (nh (d:= .int .i64 4) (E22++ [tT,tT])).to (by (simp only [wk,D.int.injEq,ev];decide))
 let E23:EL:=E22++ [tC (aH h22)]
 by_cases h23:op=23
 ·subst h23
  exact (nh (d:= .int .i64 4) (E23++ [tT,tT])).to (by (simp only [wk,D.int.injEq,ev];decide))
 let E24:EL:=E23++ [tC (aH h23)]
 by_cases h24:op=24
 ·subst h24
  exact (nh (d:= .int .i64 4) (E24++ [tT])).to (by (simp only [wk,D.int.injEq,ev];decide))
 let E25:EL:=E24++ [tC (aH h24)]
 by_cases h25:op=25
 ·subst h25
  exact (nh (d:= .int .i64 5) (E25++ [tT])).to (by (simp only [wk,D.int.injEq,ev];decide))
 let E26:EL:=E25++ [tC (aH h25)]
 by_cases h26:op=26
 ·subst h26
  exact (nh (d:= .int .i64 6) (E26++ [tT])).to (by (simp only [wk,D.int.injEq,ev];decide))
 let E27:EL:=E26++ [tC (aH h26)]
 by_cases U3:op=27
 ·subst U3
  exact (nh (d:= .int .i64 7) (E27++ [tT])).to (by (simp only [wk,D.int.injEq,ev];decide))
 by_cases h28:op=28
 ·subst h28
  exact (nh (d:= .int .i64 8) (E27++ [tC (aH U3),tT])).to (by (simp only [wk,D.int.injEq,ev];decide))
 let E28:EL:=E27++ [tC (aH U3),tC (aH h28)]
 by_cases h29:op=29
 ·subst h29
  exact (nh (d:= .int .i64 9) (E28++ [tT])).to (by (simp only [wk,D.int.injEq,ev];decide))
 by_cases h30:op=30
 ·subst h30
  exact (nh (d:= .int .i64 10) (E28++ [tC (aH h29),tT,tT])).to (by (simp only [wk,D.int.injEq,ev];decide))
 by_cases Vt:op=31
 ·subst Vt
  exact (nh (d:= .int .i64 10) (E28++ [tC (aH h29),tC (aH h30),tT])).to (by (simp only [wk,D.int.injEq,ev];decide))
 exact (nh (d:= .int .i64 0) (E28++ [tC (aH h29),tC (aH h30),tC (aH Vt)])).to (by (simp only [wk,D.int.injEq,ev];unfold bz aF;(repeat split)<;>omega))
theorem BZ (op w ab ae aa af aq cc:Int):aY Xh 98 ([xD op w ab ae aa af aq cc,aj 1]) (xD 0 0 0 0 aa af aq cc):=by
 let E1:EL:= [tT,tT,tT,tT,tF,tF,.flat _ _ eh]
 by_cases h0:aa=0
 ·subst h0
  by_cases h1:af=0
  ·subst h1
   by_cases h2:aq=0
   ·subst h2
    by_cases h3:cc=0
    ·subst h3
     exact (jd (d:=(xD 0 0 0 0 0 0 0 0)) (E1++ [tF])).to (by (simp [aI,];done))
    exact (jd (d:=(xD 0 0 0 0 0 0 0 cc)) (E1++ [tC (nt (a7 rfl (a7 rfl (a7 rfl (a7 rfl (a7 rfl (a7 rfl (a7 rfl (dB (y:=true) (aH h3))))))))))])).to (by (simp [aI,h3];done))
   exact (jd (d:=(xD 0 0 0 0 0 0 aq cc)) (E1++ [tC (nt (a7 rfl (a7 rfl (a7 rfl (a7 rfl (a7 rfl (a7 rfl (dB (y:=bA [aj cc] [aj 0]) (aH h2)))))))))])).to (by (simp [aI,h2];done))
  exact (jd (d:=(xD 0 0 0 0 0 af aq cc)) (E1++ [tC (nt (a7 rfl (a7 rfl (a7 rfl (a7 rfl (a7 rfl (dB (y:=bA [ao aq,aj cc] [ao 0,aj 0]) (aH h1))))))))])).to (by (simp [aI,h1];done))
 exact (jd (d:=(xD 0 0 0 0 aa af aq cc)) (E1++ [tC (nt (a7 rfl (a7 rfl (a7 rfl (a7 rfl (dB (y:=bA [ao af,ao aq,aj cc] [ao 0,ao 0,aj 0]) (aH h0)))))))])).to (by (simp [aI,h0];done))
theorem BX (op w ab ae aa af aq cc:Int):aY Xh 98 ([xD op w ab ae aa af aq cc,aj 2]) (xD 0 0 0 0 aa af aq cc):=by
 let E1:EL:= [tF,tT,tT,tT,tT,tF,tF,.flat _ _ eh]
 by_cases h0:aa=0
 ·subst h0
  by_cases h1:af=0
  ·subst h1
   by_cases h2:aq=0
   ·subst h2
    by_cases h3:cc=0
    ·subst h3
     exact (jd (d:=(xD 0 0 0 0 0 0 0 0)) (E1++ [tF])).to (by (simp [aI,];done))
    exact (jd (d:=(xD 0 0 0 0 0 0 0 cc)) (E1++ [tC (nt (a7 rfl (a7 rfl (a7 rfl (a7 rfl (a7 rfl (a7 rfl (a7 rfl (dB (y:=true) (aH h3))))))))))])).to (by (simp [aI,h3];done))
   exact (jd (d:=(xD 0 0 0 0 0 0 aq cc)) (E1++ [tC (nt (a7 rfl (a7 rfl (a7 rfl (a7 rfl (a7 rfl (a7 rfl (dB (y:=bA [aj cc] [aj 0]) (aH h2)))))))))])).to (by (simp [aI,h2];done))
  exact (jd (d:=(xD 0 0 0 0 0 af aq cc)) (E1++ [tC (nt (a7 rfl (a7 rfl (a7 rfl (a7 rfl (a7 rfl (dB (y:=bA [ao aq,aj cc] [ao 0,aj 0]) (aH h1))))))))])).to (by (simp [aI,h1];done))
 exact (jd (d:=(xD 0 0 0 0 aa af aq cc)) (E1++ [tC (nt (a7 rfl (a7 rfl (a7 rfl (a7 rfl (dB (y:=bA [ao af,ao aq,aj cc] [ao 0,ao 0,aj 0]) (aH h0)))))))])).to (by (simp [aI,h0];done))
theorem BW (op w ab ae aa af aq cc:Int):aY Xh 98 ([xD op w ab ae aa af aq cc,aj 3]) (xD 0 0 0 ae aa af 0 cc):=by
 let E1:EL:=(bK 9 120++ [.flat _ _ eh])
 by_cases h0:ae=0
 ·subst h0
  by_cases h1:aa=0
  ·subst h1
   by_cases h2:af=0
   ·subst h2
    by_cases h3:cc=0
    ·subst h3
     exact (jd (d:=(xD 0 0 0 0 0 0 0 0)) (E1++ [tF])).to (by (simp [aI,];done))
    exact (jd (d:=(xD 0 0 0 0 0 0 0 cc)) (E1++ [tC (nt (a7 rfl (a7 rfl (a7 rfl (a7 rfl (a7 rfl (a7 rfl (a7 rfl (dB (y:=true) (aH h3))))))))))])).to (by (simp [aI,h3];done))
   exact (jd (d:=(xD 0 0 0 0 0 af 0 cc)) (E1++ [tC (nt (a7 rfl (a7 rfl (a7 rfl (a7 rfl (a7 rfl (dB (y:=bA [ao 0,aj cc] [ao 0,aj 0]) (aH h2))))))))])).to (by (simp [aI,h2];done))
  exact (jd (d:=(xD 0 0 0 0 aa af 0 cc)) (E1++ [tC (nt (a7 rfl (a7 rfl (a7 rfl (a7 rfl (dB (y:=bA [ao af,ao 0,aj cc] [ao 0,ao 0,aj 0]) (aH h1)))))))])).to (by (simp [aI,h1];done))
 exact (jd (d:=(xD 0 0 0 ae aa af 0 cc)) (E1++ [tC (nt (a7 rfl (a7 rfl (a7 rfl (dB (y:=bA [aj aa,ao af,ao 0,aj cc] [aj 0,ao 0,ao 0,aj 0]) (aH h0))))))])).to (by (simp [aI,h0];done))
theorem BV (op w ab ae aa af aq cc:Int):aY Xh 98 ([xD op w ab ae aa af aq cc,aj 4]) (xD 0 0 0 ae aa af 0 cc):=by
 let E1:EL:=(bK 9 112++ [.flat _ _ eh])
 by_cases h0:ae=0
 ·subst h0
  by_cases h1:aa=0
  ·subst h1
   by_cases h2:af=0
   ·subst h2
    by_cases h3:cc=0
    ·subst h3
     exact (jd (d:=(xD 0 0 0 0 0 0 0 0)) (E1++ [tF])).to (by (simp [aI,];done))
    exact (jd (d:=(xD 0 0 0 0 0 0 0 cc)) (E1++ [tC (nt (a7 rfl (a7 rfl (a7 rfl (a7 rfl (a7 rfl (a7 rfl (a7 rfl (dB (y:=true) (aH h3))))))))))])).to (by (simp [aI,h3];done))
   exact (jd (d:=(xD 0 0 0 0 0 af 0 cc)) (E1++ [tC (nt (a7 rfl (a7 rfl (a7 rfl (a7 rfl (a7 rfl (dB (y:=bA [ao 0,aj cc] [ao 0,aj 0]) (aH h2))))))))])).to (by (simp [aI,h2];done))
  exact (jd (d:=(xD 0 0 0 0 aa af 0 cc)) (E1++ [tC (nt (a7 rfl (a7 rfl (a7 rfl (a7 rfl (dB (y:=bA [ao af,ao 0,aj cc] [ao 0,ao 0,aj 0]) (aH h1)))))))])).to (by (simp [aI,h1];done))
 exact (jd (d:=(xD 0 0 0 ae aa af 0 cc)) (E1++ [tC (nt (a7 rfl (a7 rfl (a7 rfl (dB (y:=bA [aj aa,ao af,ao 0,aj cc] [aj 0,ao 0,ao 0,aj 0]) (aH h0))))))])).to (by (simp [aI,h0];done))
theorem BU (op w ab ae aa af aq cc:Int):aY Xh 98 ([xD op w ab ae aa af aq cc,aj 5]) (xD 0 0 0 ae aa af aq cc):=by
 let E1:EL:=(bK 10 224++ [.flat _ _ eh])
 by_cases h0:ae=0
 ·subst h0
  by_cases h1:aa=0
  ·subst h1
   by_cases h2:af=0
   ·subst h2
    by_cases h3:aq=0
    ·subst h3
     by_cases h4:cc=0
     ·subst h4
      exact (jd (d:=(xD 0 0 0 0 0 0 0 0)) (E1++ [tF])).to (by (simp [aI,];done))
     exact (jd (d:=(xD 0 0 0 0 0 0 0 cc)) (E1++ [tC (nt (a7 rfl (a7 rfl (a7 rfl (a7 rfl (a7 rfl (a7 rfl (a7 rfl (dB (y:=true) (aH h4))))))))))])).to (by (simp [aI,h4];done))
    exact (jd (d:=(xD 0 0 0 0 0 0 aq cc)) (E1++ [tC (nt (a7 rfl (a7 rfl (a7 rfl (a7 rfl (a7 rfl (a7 rfl (dB (y:=bA [aj cc] [aj 0]) (aH h3)))))))))])).to (by (simp [aI,h3];done))
   exact (jd (d:=(xD 0 0 0 0 0 af aq cc)) (E1++ [tC (nt (a7 rfl (a7 rfl (a7 rfl (a7 rfl (a7 rfl (dB (y:=bA [ao aq,aj cc] [ao 0,aj 0]) (aH h2))))))))])).to (by (simp [aI,h2];done))
  exact (jd (d:=(xD 0 0 0 0 aa af aq cc)) (E1++ [tC (nt (a7 rfl (a7 rfl (a7 rfl (a7 rfl (dB (y:=bA [ao af,ao aq,aj cc] [ao 0,ao 0,aj 0]) (aH h1)))))))])).to (by (simp [aI,h1];done))
 exact (jd (d:=(xD 0 0 0 ae aa af aq cc)) (E1++ [tC (nt (a7 rfl (a7 rfl (a7 rfl (dB (y:=bA [aj aa,ao af,ao aq,aj cc] [aj 0,ao 0,ao 0,aj 0]) (aH h0))))))])).to (by (simp [aI,h0];done))
theorem BT (op w ab ae aa af aq cc:Int):aY Xh 98 ([xD op w ab ae aa af aq cc,aj 6]) (xD 0 0 0 0 aa af aq 0):=by
 let E1:EL:= [tF,tF,tT,tF,tF,tT,tT,.flat _ _ eh]
 by_cases h0:aa=0
 ·subst h0
  by_cases h1:af=0
  ·subst h1
   by_cases h2:aq=0
   ·subst h2
    exact (jd (d:=(xD 0 0 0 0 0 0 0 0)) (E1++ [tF])).to (by (simp [aI,];done))
   exact (jd (d:=(xD 0 0 0 0 0 0 aq 0)) (E1++ [tC (nt (a7 rfl (a7 rfl (a7 rfl (a7 rfl (a7 rfl (a7 rfl (dB (y:=true) (aH h2)))))))))])).to (by (simp [aI,h2];done))
  exact (jd (d:=(xD 0 0 0 0 0 af aq 0)) (E1++ [tC (nt (a7 rfl (a7 rfl (a7 rfl (a7 rfl (a7 rfl (dB (y:=bA [ao aq,aj 0] [ao 0,aj 0]) (aH h1))))))))])).to (by (simp [aI,h1];done))
 exact (jd (d:=(xD 0 0 0 0 aa af aq 0)) (E1++ [tC (nt (a7 rfl (a7 rfl (a7 rfl (a7 rfl (dB (y:=bA [ao af,ao aq,aj 0] [ao 0,ao 0,aj 0]) (aH h0)))))))])).to (by (simp [aI,h0];done))
theorem BS (op w ab ae aa af aq cc:Int):aY Xh 98 ([xD op w ab ae aa af aq cc,aj 7]) (xD 0 0 0 ae 0 0 aq cc):=by
 let E1:EL:=(bK 11 448++ [.flat _ _ eh])
 by_cases h0:ae=0
 ·subst h0
  by_cases h1:aq=0
  ·subst h1
   by_cases h2:cc=0
   ·subst h2
    exact (jd (d:=(xD 0 0 0 0 0 0 0 0)) (E1++ [tF])).to (by (simp [aI,];done))
   exact (jd (d:=(xD 0 0 0 0 0 0 0 cc)) (E1++ [tC (nt (a7 rfl (a7 rfl (a7 rfl (a7 rfl (a7 rfl (a7 rfl (a7 rfl (dB (y:=true) (aH h2))))))))))])).to (by (simp [aI,h2];done))
  exact (jd (d:=(xD 0 0 0 0 0 0 aq cc)) (E1++ [tC (nt (a7 rfl (a7 rfl (a7 rfl (a7 rfl (a7 rfl (a7 rfl (dB (y:=bA [aj cc] [aj 0]) (aH h1)))))))))])).to (by (simp [aI,h1];done))
 exact (jd (d:=(xD 0 0 0 ae 0 0 aq cc)) (E1++ [tC (nt (a7 rfl (a7 rfl (a7 rfl (dB (y:=bA [aj 0,ao 0,ao aq,aj cc] [aj 0,ao 0,ao 0,aj 0]) (aH h0))))))])).to (by (simp [aI,h0];done))
theorem BR (op w ab ae aa af aq cc:Int):aY Xh 98 ([xD op w ab ae aa af aq cc,aj 8]) (xD 0 0 ab 0 0 0 aq cc):=by
 let E1:EL:=(bK 12 896++ [.flat _ _ eh])
 by_cases h0:ab=0
 ·subst h0
  by_cases h1:aq=0
  ·subst h1
   by_cases h2:cc=0
   ·subst h2
    exact (jd (d:=(xD 0 0 0 0 0 0 0 0)) (E1++ [tF])).to (by (simp [aI,];done))
   exact (jd (d:=(xD 0 0 0 0 0 0 0 cc)) (E1++ [tC (nt (a7 rfl (a7 rfl (a7 rfl (a7 rfl (a7 rfl (a7 rfl (a7 rfl (dB (y:=true) (aH h2))))))))))])).to (by (simp [aI,h2];done))
  exact (jd (d:=(xD 0 0 0 0 0 0 aq cc)) (E1++ [tC (nt (a7 rfl (a7 rfl (a7 rfl (a7 rfl (a7 rfl (a7 rfl (dB (y:=bA [aj cc] [aj 0]) (aH h1)))))))))])).to (by (simp [aI,h1];done))
 exact (jd (d:=(xD 0 0 ab 0 0 0 aq cc)) (E1++ [tC (nt (a7 rfl (a7 rfl (dB (y:=bA [aj 0,aj 0,ao 0,ao aq,aj cc] [aj 0,aj 0,ao 0,ao 0,aj 0]) (aH h0)))))])).to (by (simp [aI,h0];done))
theorem BQ (op w ab ae aa af aq cc:Int):aY Xh 98 ([xD op w ab ae aa af aq cc,aj 9]) (xD 0 0 ab ae aa af 0 cc):=by
 let E1:EL:=(Xg 8 tF++ [tT,tT,tT,tT,tF,tF,.flat _ _ eh])
 by_cases h0:ab=0
 ·subst h0
  by_cases h1:ae=0
  ·subst h1
   by_cases h2:aa=0
   ·subst h2
    by_cases h3:af=0
    ·subst h3
     by_cases h4:cc=0
     ·subst h4
      exact (jd (d:=(xD 0 0 0 0 0 0 0 0)) (E1++ [tF])).to (by (simp [aI,];done))
     exact (jd (d:=(xD 0 0 0 0 0 0 0 cc)) (E1++ [tC (nt (a7 rfl (a7 rfl (a7 rfl (a7 rfl (a7 rfl (a7 rfl (a7 rfl (dB (y:=true) (aH h4))))))))))])).to (by (simp [aI,h4];done))
    exact (jd (d:=(xD 0 0 0 0 0 af 0 cc)) (E1++ [tC (nt (a7 rfl (a7 rfl (a7 rfl (a7 rfl (a7 rfl (dB (y:=bA [ao 0,aj cc] [ao 0,aj 0]) (aH h3))))))))])).to (by (simp [aI,h3];done))
   exact (jd (d:=(xD 0 0 0 0 aa af 0 cc)) (E1++ [tC (nt (a7 rfl (a7 rfl (a7 rfl (a7 rfl (dB (y:=bA [ao af,ao 0,aj cc] [ao 0,ao 0,aj 0]) (aH h2)))))))])).to (by (simp [aI,h2];done))
  exact (jd (d:=(xD 0 0 0 ae aa af 0 cc)) (E1++ [tC (nt (a7 rfl (a7 rfl (a7 rfl (dB (y:=bA [aj aa,ao af,ao 0,aj cc] [aj 0,ao 0,ao 0,aj 0]) (aH h1))))))])).to (by (simp [aI,h1];done))
 exact (jd (d:=(xD 0 0 ab ae aa af 0 cc)) (E1++ [tC (nt (a7 rfl (a7 rfl (dB (y:=bA [aj ae,aj aa,ao af,ao 0,aj cc] [aj 0,aj 0,ao 0,ao 0,aj 0]) (aH h0)))))])).to (by (simp [aI,h0];done))
theorem zk (op w ab ae aa af aq cc:Int):aY Xh 98 ([xD op w ab ae aa af aq cc,aj 10]) (xD 0 0 ab ae aa af 0 0):=by
 let E1:EL:=(Xg 9 tF++ [tT,tT,tT,tF,tT,.flat _ _ eh])
 by_cases h0:ab=0
 ·subst h0
  by_cases h1:ae=0
  ·subst h1
   by_cases h2:aa=0
   ·subst h2
    by_cases h3:af=0
    ·subst h3
     exact (jd (d:=(xD 0 0 0 0 0 0 0 0)) (E1++ [tF])).to (by (simp [aI,];done))
    exact (jd (d:=(xD 0 0 0 0 0 af 0 0)) (E1++ [tC (nt (a7 rfl (a7 rfl (a7 rfl (a7 rfl (a7 rfl (dB (y:=true) (aH h3))))))))])).to (by (simp [aI,h3];done))
   exact (jd (d:=(xD 0 0 0 0 aa af 0 0)) (E1++ [tC (nt (a7 rfl (a7 rfl (a7 rfl (a7 rfl (dB (y:=bA [ao af,ao 0,aj 0] [ao 0,ao 0,aj 0]) (aH h2)))))))])).to (by (simp [aI,h2];done))
  exact (jd (d:=(xD 0 0 0 ae aa af 0 0)) (E1++ [tC (nt (a7 rfl (a7 rfl (a7 rfl (dB (y:=bA [aj aa,ao af,ao 0,aj 0] [aj 0,ao 0,ao 0,aj 0]) (aH h1))))))])).to (by (simp [aI,h1];done))
 exact (jd (d:=(xD 0 0 ab ae aa af 0 0)) (E1++ [tC (nt (a7 rfl (a7 rfl (dB (y:=bA [aj ae,aj aa,ao af,ao 0,aj 0] [aj 0,aj 0,ao 0,ao 0,aj 0]) (aH h0)))))])).to (by (simp [aI,h0];done))
theorem zj (op w ab ae aa af aq cc:Int):aY Xh 98 ([xD op w ab ae aa af aq cc,aj 11]) (xD 0 w ab ae aa af aq cc):=by
 let E1:EL:=(Xg 10 tF++ [tT,tT,tF,tF,.flat _ _ eh])
 by_cases h0:w=0
 ·subst h0
  by_cases h1:ab=0
  ·subst h1
   by_cases h2:ae=0
   ·subst h2
    by_cases h3:aa=0
    ·subst h3
     by_cases h4:af=0
     ·subst h4
      by_cases h5:aq=0
      ·subst h5
       by_cases h6:cc=0
       ·subst h6
        exact (jd (d:=(xD 0 0 0 0 0 0 0 0)) (E1++ [tF])).to (by (simp [aI,];done))
       exact (jd (d:=(xD 0 0 0 0 0 0 0 cc)) (E1++ [tC (nt (a7 rfl (a7 rfl (a7 rfl (a7 rfl (a7 rfl (a7 rfl (a7 rfl (dB (y:=true) (aH h6))))))))))])).to (by (simp [aI,h6];done))
      exact (jd (d:=(xD 0 0 0 0 0 0 aq cc)) (E1++ [tC (nt (a7 rfl (a7 rfl (a7 rfl (a7 rfl (a7 rfl (a7 rfl (dB (y:=bA [aj cc] [aj 0]) (aH h5)))))))))])).to (by (simp [aI,h5];done))
     exact (jd (d:=(xD 0 0 0 0 0 af aq cc)) (E1++ [tC (nt (a7 rfl (a7 rfl (a7 rfl (a7 rfl (a7 rfl (dB (y:=bA [ao aq,aj cc] [ao 0,aj 0]) (aH h4))))))))])).to (by (simp [aI,h4];done))
    exact (jd (d:=(xD 0 0 0 0 aa af aq cc)) (E1++ [tC (nt (a7 rfl (a7 rfl (a7 rfl (a7 rfl (dB (y:=bA [ao af,ao aq,aj cc] [ao 0,ao 0,aj 0]) (aH h3)))))))])).to (by (simp [aI,h3];done))
   exact (jd (d:=(xD 0 0 0 ae aa af aq cc)) (E1++ [tC (nt (a7 rfl (a7 rfl (a7 rfl (dB (y:=bA [aj aa,ao af,ao aq,aj cc] [aj 0,ao 0,ao 0,aj 0]) (aH h2))))))])).to (by (simp [aI,h2];done))
  exact (jd (d:=(xD 0 0 ab ae aa af aq cc)) (E1++ [tC (nt (a7 rfl (a7 rfl (dB (y:=bA [aj ae,aj aa,ao af,ao aq,aj cc] [aj 0,aj 0,ao 0,ao 0,aj 0]) (aH h1)))))])).to (by (simp [aI,h1];done))
 exact (jd (d:=(xD 0 w ab ae aa af aq cc)) (E1++ [tC (nt (a7 rfl (dB (y:=bA [aj ab,aj ae,aj aa,ao af,ao aq,aj cc] [aj 0,aj 0,aj 0,ao 0,ao 0,aj 0]) (aH h0))))])).to (by (simp [aI,h0];done))
theorem j2 {op:Int} (h:op<0∨32≤op):aF op=0∧bq op=0∧bW op=0:=by
 refine ⟨?_,?_,?_⟩
 ·unfold aF;repeat (rw [if_neg (by omega)])
 ·unfold bq;repeat (rw [if_neg (by omega)])
 ·unfold bW;repeat (rw [if_neg (by omega)])
theorem dr (op:Int) (ho:op≤127):aY Xh 73 [aj op] (.aQ [.agg [aj (aF op),av (bq op),aj (bW op)],ax (decide (0≤op∧op≤31))]):=by
 by_cases h1:op<0
 ·obtain ⟨e1,e2,e3⟩:=j2 (.inl h1)
  rw [e1,e2,e3,bg (by omega)]
  exact Eu op h1
 ·by_cases h2:32≤op
  ·obtain ⟨e1,e2,e3⟩:=j2 (.inr h2)
   rw [e1,e2,e3,bg (by omega)]
   exact Al op h2 ho
  ·rcases (by omega:op=0∨op=1∨op=2∨op=3∨op=4∨op=5∨op=6∨op=7∨op=8∨op=9∨op=10∨op=11∨op=12∨op=13∨op=14∨op=15∨op=16∨op=17∨op=18∨op=19∨op=20∨op=21∨op=22∨op=23∨op=24∨op=25∨op=26∨op=27∨op=28∨op=29∨op=30∨op=31) with rfl|rfl|rfl|rfl|rfl|rfl|rfl|rfl|rfl|rfl|rfl|rfl|rfl|rfl|rfl|rfl|rfl|rfl|rfl|rfl|rfl|rfl|rfl|rfl|rfl|rfl|rfl|rfl|rfl|rfl|rfl|rfl
   ·exact KR
   ·exact KQ
   ·exact KP
   ·exact KO
   ·exact KN
   ·exact KM
   ·exact KL
   ·exact KK
   ·exact KJ
   ·exact KI
   ·exact Iu
   ·exact It
   ·exact Ir
   ·exact Iq
   ·exact Ip
   ·exact Io
   ·exact Im
   ·exact Il
   ·exact Ik
   ·exact Ij
   ·exact Ii
   ·exact Ih
   ·exact Ig
   ·exact Ie
   ·exact Ic
   ·exact Ib
   ·exact Ia
   ·exact H9
   ·exact H8
   ·exact H7
   ·exact H6
   ·exact H5
theorem Gw (op w ab ae aa af aq cc sh:Int) (h:(sh==1)=true):aY Xh 98 [xD op w ab ae aa af aq cc,aj sh] (xD 0 0 0 0 aa af aq cc):=by
 obtain rfl:=eq_of_beq h
 exact BZ op w ab ae aa af aq cc
theorem Gv (op w ab ae aa af aq cc sh:Int) (h:(sh==2)=true):aY Xh 98 [xD op w ab ae aa af aq cc,aj sh] (xD 0 0 0 0 aa af aq cc):=by
 obtain rfl:=eq_of_beq h
 exact BX op w ab ae aa af aq cc
theorem Gu (op w ab ae aa af aq cc sh:Int) (h:(sh==3)=true):aY Xh 98 [xD op w ab ae aa af aq cc,aj sh] (xD 0 0 0 ae aa af 0 cc):=by
 obtain rfl:=eq_of_beq h
 exact BW op w ab ae aa af aq cc
theorem Gt (op w ab ae aa af aq cc sh:Int) (h:(sh==4)=true):aY Xh 98 [xD op w ab ae aa af aq cc,aj sh] (xD 0 0 0 ae aa af 0 cc):=by
 obtain rfl:=eq_of_beq h
 exact BV op w ab ae aa af aq cc
theorem Gs (op w ab ae aa af aq cc sh:Int) (h:(sh==5)=true):aY Xh 98 [xD op w ab ae aa af aq cc,aj sh] (xD 0 0 0 ae aa af aq cc):=by
 obtain rfl:=eq_of_beq h
 exact BU op w ab ae aa af aq cc
theorem Gr (op w ab ae aa af aq cc sh:Int) (h:(sh==6)=true):aY Xh 98 [xD op w ab ae aa af aq cc,aj sh] (xD 0 0 0 0 aa af aq 0):=by
 obtain rfl:=eq_of_beq h
 exact BT op w ab ae aa af aq cc
theorem Gq (op w ab ae aa af aq cc sh:Int) (h:(sh==7)=true):aY Xh 98 [xD op w ab ae aa af aq cc,aj sh] (xD 0 0 0 ae 0 0 aq cc):=by
 obtain rfl:=eq_of_beq h
 exact BS op w ab ae aa af aq cc
theorem Gp (op w ab ae aa af aq cc sh:Int) (h:(sh==8)=true):aY Xh 98 [xD op w ab ae aa af aq cc,aj sh] (xD 0 0 ab 0 0 0 aq cc):=by
 obtain rfl:=eq_of_beq h
 exact BR op w ab ae aa af aq cc
theorem Gn (op w ab ae aa af aq cc sh:Int) (h:(sh==9)=true):aY Xh 98 [xD op w ab ae aa af aq cc,aj sh] (xD 0 0 ab ae aa af 0 cc):=by
 obtain rfl:=eq_of_beq h
 exact BQ op w ab ae aa af aq cc
theorem BP (op w ab ae aa af aq cc sh:Int) (h:(sh==10)=true):aY Xh 98 [xD op w ab ae aa af aq cc,aj sh] (xD 0 0 ab ae aa af 0 0):=by
 obtain rfl:=eq_of_beq h
 exact zk op w ab ae aa af aq cc
theorem BO (op w ab ae aa af aq cc sh:Int) (h:(sh==11)=true):aY Xh 98 [xD op w ab ae aa af aq cc,aj sh] (xD 0 w ab ae aa af aq cc):=by
 obtain rfl:=eq_of_beq h
 exact zj op w ab ae aa af aq cc
theorem sM:type_of%(Xw @a8.eq_1 (Xw @aL.eq_1 (Xw @br.eq_1 (Xw @aE.eq_1 (Xw @ay.eq_1 (Xw @a9.eq_1 @bB.eq_1)))))):=(Xw @a8.eq_1 (Xw @aL.eq_1 (Xw @br.eq_1 (Xw @aE.eq_1 (Xw @ay.eq_1 (Xw @a9.eq_1 @bB.eq_1))))))
end Go.Proofs.YtbfpahigdpigpaaGreat
