import Derived.Test.YtbfpahigdpigpaaGreatQ05
import Derived.Test.YtbfpahigdpigpaaGreatQ08
open List renaming replicate→Z7
open BitVec renaming ofInt→Z8,toNat→aab
open Go.Proofs.Tryz renaming prog→Z9
open Int renaming not_lt→aah
open Bool renaming eq_iff_iff→aai
open And renaming intro→aaj
open List.cons renaming injEq→aaI
open Go renaming IntKind→abz
/- Contracts and plain laws that a statement's proof leans on (texts merged:XD1,XD1A,XOf,XOfA,XMay0,XMay1,XMay2). -/
set_option linter.unusedVariables false
set_option linter.unusedSimpArgs false
set_option maxRecDepth 100000
set_option maxHeartbeats 8000000
namespace Go.Proofs.YtbfpahigdpigpaaGreat
open Go Go.Ev
abbrev rB (s:aJ):Ob:= .box [ao s.w,ax s.eO,aC s.code,ao s.r,ao s.m,av s.af,av s.aj,av s.small,av s.gk,av s.gY,ao s.high]
theorem PS (s:aJ) (k:Int) (k0:0≤k) (k1:k≤31) (v0:0≤s.code) (v1:s.code≤255) (cd nm:Int) (z0 z1 z2 z3 z4 z5 z6 z8 z9:Ob):ak Z9 143 ([.ptr false 7 0,ao (abz.i8.wrap k),.agg [ao 1,aC cd,ao nm]]) ([z0,z1,z2,z3,z4,z5,z6,rB s,z8,z9]) (xD (abz.i8.wrap k) (aJ.w s) (aJ.m s) (aJ.r s) 0 0 0 0) ([z0,z1,z2,z3,z4,z5,z6,rB s,z8,z9,aF,aF,aF]):=(ak.ai (aU:= [0,1,2,3,4,5,6,7,8,9]) (d:=(xD (abz.i8.wrap k) (aJ.w s) (aJ.m s) (aJ.r s) 0 0 0 0)) (s':= [z0,z1,z2,z3,z4,z5,z6,rB s,z8,z9,aF,aF,aF]) mixed [tT]).cast (by first|(rfl;done)|(exfalso;(try simp only [bS,cI,cz,fO,ki,ne_eq] at*);first|omega|contradiction)) (by rfl)
theorem PR (s:aJ) (k:Int) (k0:0≤k) (k1:k≤31) (v0:0≤s.code) (v1:s.code≤255) (cd nm:Int) (z0 z1 z2 z3 z4 z5 z6 z8 z9:Ob):ak Z9 143 ([.ptr false 7 0,ao (abz.i8.wrap k),.agg [ao 2,aC cd,ao nm]]) ([z0,z1,z2,z3,z4,z5,z6,rB s,z8,z9]) (xD (abz.i8.wrap k) (aJ.w s) (aJ.r s) (aJ.m s) 0 0 0 0) ([z0,z1,z2,z3,z4,z5,z6,rB s,z8,z9,aF,aF,aF]):=(ak.ai (aU:= [0,1,2,3,4,5,6,7,8,9]) (d:=(xD (abz.i8.wrap k) (aJ.w s) (aJ.r s) (aJ.m s) 0 0 0 0)) (s':= [z0,z1,z2,z3,z4,z5,z6,rB s,z8,z9,aF,aF,aF]) mixed [tF,tT]).cast (by first|(rfl;done)|(exfalso;(try simp only [bS,cI,cz,fO,ki,ne_eq] at*);first|omega|contradiction)) (by rfl)
theorem Nz (s:aJ) (k:Int) (k0:0≤k) (k1:k≤31) (v0:0≤s.code) (v1:s.code≤255) (cd nm:Int) (z0 z1 z2 z3 z4 z5 z6 z8 z9:Ob) (hk:¬k=1):ak Z9 143 ([.ptr false 7 0,ao (abz.i8.wrap k),.agg [ao 3,aC cd,ao nm]]) ([z0,z1,z2,z3,z4,z5,z6,rB s,z8,z9]) (xD (abz.i8.wrap k) (aJ.w s) (aJ.m s) 0 0 0 (aJ.aj s) 0) ([z0,z1,z2,z3,z4,z5,z6,rB s,z8,z9,aF,aF,aF]):=(ak.ai (aU:= [0,1,2,3,4,5,6,7,8,9]) (d:=(xD (abz.i8.wrap k) (aJ.w s) (aJ.m s) 0 0 0 (aJ.aj s) 0)) (s':= [z0,z1,z2,z3,z4,z5,z6,rB s,z8,z9,aF,aF,aF]) mixed ([tF,tF,tF,tT,tC (eT (by (simp only [cH] at*;omega):(abz.i8.wrap k==1)=false)),tC (eT (by (simp only [cH] at*;omega):(abz.i8.wrap k==1)=false)),tC (eT (by (simp only [cH] at*;omega):(abz.i8.wrap k==1)=false)),tC (eT (by (simp only [cH] at*;omega):(abz.i8.wrap k==1)=false)),tC (eT (by (simp only [cH] at*;omega):(abz.i8.wrap k==1)=false)),tC (by (simp only [cH] at*;omega):(abz.i8.wrap k==1)=false),tF,tF,tF,tF,tF,tF]++ [tF])).cast (by first|(rfl;done)|(exfalso;(try simp only [bS,cI,cz,fO,ki,ne_eq] at*);first|omega|contradiction)) (by rfl)
theorem NB (s:aJ) (k:Int) (k0:0≤k) (k1:k≤31) (v0:0≤s.code) (v1:s.code≤255) (cd nm:Int) (z0 z1 z2 z3 z4 z5 z6 z8 z9:Ob) (hk:k=1) (hc:s.code<184):ak Z9 143 ([.ptr false 7 0,ao (abz.i8.wrap k),.agg [ao 3,aC cd,ao nm]]) ([z0,z1,z2,z3,z4,z5,z6,rB s,z8,z9]) (xD (abz.i8.wrap k) (aJ.w s) (aJ.m s) 0 0 0 (aJ.aj s) 0) ([z0,z1,z2,z3,z4,z5,z6,rB s,z8,z9,aF,aF,aF]):=(ak.ai (aU:= [0,1,2,3,4,5,6,7,8,9]) (d:=(xD (abz.i8.wrap k) (aJ.w s) (aJ.m s) 0 0 0 (aJ.aj s) 0)) (s':= [z0,z1,z2,z3,z4,z5,z6,rB s,z8,z9,aF,aF,aF]) mixed ([tF,tF,tF,tT,tC (eT (cK 1 true (by (simp only [cH] at*;omega):abz.i8.wrap k=1))),tC (eT (cK 1 true (by (simp only [cH] at*;omega):abz.i8.wrap k=1))),tC (eT (cK 1 true (by (simp only [cH] at*;omega):abz.i8.wrap k=1))),tC (eT (cK 1 true (by (simp only [cH] at*;omega):abz.i8.wrap k=1))),tC (eT (cK 1 true (by (simp only [cH] at*;omega):abz.i8.wrap k=1))),tC (cK 1 true (by (simp only [cH] at*;omega):abz.i8.wrap k=1)),tC (eT (bQ 184 (b8 hc))),tC (eT (bQ 184 (b8 hc))),tC (eT (bQ 184 (b8 hc))),tC (eT (bQ 184 (b8 hc))),tC (eT (bQ 184 (b8 hc))),tC (bQ 184 (b8 hc))]++ [tF])).cast (by first|(rfl;done)|(exfalso;(try simp only [bS,cI,cz,fO,ki,ne_eq] at*);first|omega|contradiction)) (by rfl)
theorem NC (s:aJ) (k:Int) (k0:0≤k) (k1:k≤31) (v0:0≤s.code) (v1:s.code≤255) (cd nm:Int) (z0 z1 z2 z3 z4 z5 z6 z8 z9:Ob) (hk:k=1) (hc:192≤s.code):ak Z9 143 ([.ptr false 7 0,ao (abz.i8.wrap k),.agg [ao 3,aC cd,ao nm]]) ([z0,z1,z2,z3,z4,z5,z6,rB s,z8,z9]) (xD (abz.i8.wrap k) (aJ.w s) (aJ.m s) 0 0 0 (aJ.aj s) 0) ([z0,z1,z2,z3,z4,z5,z6,rB s,z8,z9,aF,aF,aF]):=(ak.ai (aU:= [0,1,2,3,4,5,6,7,8,9]) (d:=(xD (abz.i8.wrap k) (aJ.w s) (aJ.m s) 0 0 0 (aJ.aj s) 0)) (s':= [z0,z1,z2,z3,z4,z5,z6,rB s,z8,z9,aF,aF,aF]) mixed ([tF,tF,tF,tT,tC (eT (cK 1 true (by (simp only [cH] at*;omega):abz.i8.wrap k=1))),tC (eT (cK 1 true (by (simp only [cH] at*;omega):abz.i8.wrap k=1))),tC (eT (cK 1 true (by (simp only [cH] at*;omega):abz.i8.wrap k=1))),tC (eT (cK 1 true (by (simp only [cH] at*;omega):abz.i8.wrap k=1))),tC (eT (cK 1 true (by (simp only [cH] at*;omega):abz.i8.wrap k=1))),tC (cK 1 true (by (simp only [cH] at*;omega):abz.i8.wrap k=1)),tC (eT (bQ 184 (lu 184 (bF (aah.2 hc))))),tC (eT (bQ 184 (lu 184 (bF (aah.2 hc))))),tC (eT (bQ 184 (lu 184 (bF (aah.2 hc))))),tC (eT (bQ 184 (lu 184 (bF (aah.2 hc))))),tC (eT (bQ 184 (lu 184 (bF (aah.2 hc))))),tC (bQ 184 (lu 184 (bF (aah.2 hc))))]++ [tC (bF (aah.2 hc))])).cast (by first|(rfl;done)|(exfalso;(try simp only [bS,cI,cz,fO,ki,ne_eq] at*);first|omega|contradiction)) (by rfl)
theorem NA (s:aJ) (k:Int) (k0:0≤k) (k1:k≤31) (v0:0≤s.code) (v1:s.code≤255) (cd nm:Int) (z0 z1 z2 z3 z4 z5 z6 z8 z9:Ob) (hk:k=1) (hc:184≤s.code) (hd:s.code<192) (hh:s.high=0∨s.high=8):ak Z9 143 ([.ptr false 7 0,ao (abz.i8.wrap k),.agg [ao 3,aC cd,ao nm]]) ([z0,z1,z2,z3,z4,z5,z6,rB s,z8,z9]) (xD (abz.i8.wrap k) (aJ.w s) (s.code%8+s.high) 0 0 0 (aJ.gk s) 0) ([z0,z1,z2,z3,z4,z5,z6,rB s,z8,z9,aF,aF,aF]):=(ak.ai (aU:= [0,1,2,3,4,5,6,7,8,9]) (d:=(xD (abz.i8.wrap k) (aJ.w s) (abz.i8.wrap (↑(aab (Z8 8 (abz.i8.wrap (abz.u8.wrap (↑(aab (Z8 8 (aJ.code s)&&&Z8 8 7)):Int)))|||Z8 8 (aJ.high s))):Int)) 0 0 0 (aJ.gk s) 0)) (s':= [z0,z1,z2,z3,z4,z5,z6,rB s,z8,z9,aF,aF,aF]) mixed ([tF,tF,tF,tT,tC (eT (cK 1 true (by (simp only [cH] at*;omega):abz.i8.wrap k=1))),tC (eT (cK 1 true (by (simp only [cH] at*;omega):abz.i8.wrap k=1))),tC (eT (cK 1 true (by (simp only [cH] at*;omega):abz.i8.wrap k=1))),tC (eT (cK 1 true (by (simp only [cH] at*;omega):abz.i8.wrap k=1))),tC (eT (cK 1 true (by (simp only [cH] at*;omega):abz.i8.wrap k=1))),tC (cK 1 true (by (simp only [cH] at*;omega):abz.i8.wrap k=1)),tC (eT (bQ 184 (bF (aah.2 hc)))),tC (eT (bQ 184 (bF (aah.2 hc)))),tC (eT (bQ 184 (bF (aah.2 hc)))),tC (eT (bQ 184 (bF (aah.2 hc)))),tC (eT (bQ 184 (bF (aah.2 hc)))),tC (bQ 184 (bF (aah.2 hc)))]++ [tC (b8 hd)])).cast (by first|(simp only [xD,D.agg.injEq,aaI,D.int.injEq,fm,ey];exact Pn v0 v1 hh;done)|(exfalso;(try simp only [bS,cI,cz,fO,ki,ne_eq] at*);first|omega|contradiction)) (by rfl)
theorem PQ (s:aJ) (k:Int) (k0:0≤k) (k1:k≤31) (v0:0≤s.code) (v1:s.code≤255) (cd nm:Int) (z0 z1 z2 z3 z4 z5 z6 z8 z9:Ob):ak Z9 143 ([.ptr false 7 0,ao (abz.i8.wrap k),.agg [ao 4,aC cd,ao nm]]) ([z0,z1,z2,z3,z4,z5,z6,rB s,z8,z9]) (xD (abz.i8.wrap k) (aJ.w s) (aJ.m s) 0 0 0 (aJ.small s) 0) ([z0,z1,z2,z3,z4,z5,z6,rB s,z8,z9,aF,aF,aF]):=(ak.ai (aU:= [0,1,2,3,4,5,6,7,8,9]) (d:=(xD (abz.i8.wrap k) (aJ.w s) (aJ.m s) 0 0 0 (aJ.small s) 0)) (s':= [z0,z1,z2,z3,z4,z5,z6,rB s,z8,z9,aF,aF,aF]) mixed [tF,tF,tF,tF,tT]).cast (by first|(rfl;done)|(exfalso;(try simp only [bS,cI,cz,fO,ki,ne_eq] at*);first|omega|contradiction)) (by rfl)
theorem PO (s:aJ) (k:Int) (k0:0≤k) (k1:k≤31) (v0:0≤s.code) (v1:s.code≤255) (cd nm:Int) (z0 z1 z2 z3 z4 z5 z6 z8 z9:Ob):ak Z9 143 ([.ptr false 7 0,ao (abz.i8.wrap k),.agg [ao 5,aC cd,ao nm]]) ([z0,z1,z2,z3,z4,z5,z6,rB s,z8,z9]) (xD (abz.i8.wrap k) (aJ.w s) (aJ.m s) 0 0 0 0 0) ([z0,z1,z2,z3,z4,z5,z6,rB s,z8,z9,aF,aF,aF]):=(ak.ai (aU:= [0,1,2,3,4,5,6,7,8,9]) (d:=(xD (abz.i8.wrap k) (aJ.w s) (aJ.m s) 0 0 0 0 0)) (s':= [z0,z1,z2,z3,z4,z5,z6,rB s,z8,z9,aF,aF,aF]) mixed [tF,tF,tF,tF,tF,tT]).cast (by first|(rfl;done)|(exfalso;(try simp only [bS,cI,cz,fO,ki,ne_eq] at*);first|omega|contradiction)) (by rfl)
theorem PN (s:aJ) (k:Int) (k0:0≤k) (k1:k≤31) (v0:0≤s.code) (v1:s.code≤255) (cd nm:Int) (z0 z1 z2 z3 z4 z5 z6 z8 z9:Ob):ak Z9 143 ([.ptr false 7 0,ao (abz.i8.wrap k),.agg [ao 6,aC cd,ao nm]]) ([z0,z1,z2,z3,z4,z5,z6,rB s,z8,z9]) (xD (abz.i8.wrap k) (aJ.w s) (aJ.r s) (aJ.m s) 0 0 0 (gD (s.code - cd))) ([z0,z1,z2,z3,z4,z5,z6,rB s,z8,z9,aF,aF,aF]):=(ak.ai (aU:= [0,1,2,3,4,5,6,7,8,9]) (d:=(xD (abz.i8.wrap k) (aJ.w s) (aJ.r s) (aJ.m s) 0 0 0 (abz.i8.wrap (abz.u8.wrap (aJ.code s - cd))))) (s':= [z0,z1,z2,z3,z4,z5,z6,rB s,z8,z9,aF,aF,aF]) mixed [tF,tF,tT]).cast (by first|(simp only [xD,D.agg.injEq,aaI,D.int.injEq,fm,ey];rw [dk,bo,gD];omega;done)|(exfalso;(try simp only [bS,cI,cz,fO,ki,ne_eq] at*);first|omega|contradiction)) (by rfl)
theorem Nx (s:aJ) (k:Int) (k0:0≤k) (k1:k≤31) (v0:0≤s.code) (v1:s.code≤255) (cd nm:Int) (z0 z1 z2 z3 z4 z5 z6 z8 z9:Ob) (hl:s.eO=true):ak Z9 143 ([.ptr false 7 0,ao (abz.i8.wrap k),.agg [ao 7,aC cd,ao nm]]) ([z0,z1,z2,z3,z4,z5,z6,ay [ao (aJ.w s),ax (aJ.eO s),aC (aJ.code s),ao (aJ.r s),ao (aJ.m s),av (aJ.af s),av (aJ.aj s),av (aJ.small s),av (aJ.gk s),av (aJ.gY s),ao (aJ.high s)],z8,z9]) (xD (abz.i8.wrap k) (if s.code%2=1 then 16 else 8) (aJ.r s) 0 (aJ.m s) (aJ.af s) 0 0) ([z0,z1,z2,z3,z4,z5,z6,ay [ao (aJ.w s),ax (aJ.eO s),aC (aJ.code s),ao (aJ.r s),ao (aJ.m s),av (aJ.af s),av (aJ.aj s),av (aJ.small s),av (aJ.gk s),av (aJ.gY s),ao (aJ.high s)],z8,z9,aF,aF,aF]):=(ak.ai (aU:= [0,1,2,3,4,5,6,7,8,9]) (d:=(xD (abz.i8.wrap k) (abz.i8.wrap (8*2^min (Int.toNat (abz.u8.wrap (↑(aab (Z8 8 (aJ.code s)&&&Z8 8 1)):Int))) 8)) (aJ.r s) 0 (aJ.m s) (aJ.af s) 0 0)) (s':= [z0,z1,z2,z3,z4,z5,z6,rB s,z8,z9,aF,aF,aF]) mixed [tF,tF,tF,tF,tF,tF,tT,tC hl,tT]).cast (by first|(simp only [xD,D.agg.injEq,aaI,D.int.injEq,fm,ey];exact Mk v0 v1;done)|(exfalso;(try simp only [bS,cI,cz,fO,ki,ne_eq] at*);first|omega|contradiction)) (by rfl)
theorem Ny (s:aJ) (k:Int) (k0:0≤k) (k1:k≤31) (v0:0≤s.code) (v1:s.code≤255) (cd nm:Int) (z0 z1 z2 z3 z4 z5 z6 z8 z9:Ob) (hl:s.eO=false):ak Z9 143 ([.ptr false 7 0,ao (abz.i8.wrap k),.agg [ao 7,aC cd,ao nm]]) ([z0,z1,z2,z3,z4,z5,z6,ay [ao (aJ.w s),ax (aJ.eO s),aC (aJ.code s),ao (aJ.r s),ao (aJ.m s),av (aJ.af s),av (aJ.aj s),av (aJ.small s),av (aJ.gk s),av (aJ.gY s),ao (aJ.high s)],z8,z9]) (xD (abz.i8.wrap k) (aJ.w s) (aJ.r s) 0 (aJ.m s) (aJ.af s) 0 0) ([z0,z1,z2,z3,z4,z5,z6,ay [ao (aJ.w s),ax (aJ.eO s),aC (aJ.code s),ao (aJ.r s),ao (aJ.m s),av (aJ.af s),av (aJ.aj s),av (aJ.small s),av (aJ.gk s),av (aJ.gY s),ao (aJ.high s)],z8,z9,aF,aF,aF]):=(ak.ai (aU:= [0,1,2,3,4,5,6,7,8,9]) (d:=(xD (abz.i8.wrap k) (aJ.w s) (aJ.r s) 0 (aJ.m s) (aJ.af s) 0 0)) (s':= [z0,z1,z2,z3,z4,z5,z6,rB s,z8,z9,aF,aF,aF]) mixed [tF,tF,tF,tF,tF,tF,tT,tC hl]).cast (by first|(rfl;done)|(exfalso;(try simp only [bS,cI,cz,fO,ki,ne_eq] at*);first|omega|contradiction)) (by rfl)
theorem Nv (s:aJ) (k:Int) (k0:0≤k) (k1:k≤31) (v0:0≤s.code) (v1:s.code≤255) (cd nm:Int) (z0 z1 z2 z3 z4 z5 z6 z8 z9:Ob) (hc:s.code=136):ak Z9 143 ([.ptr false 7 0,ao (abz.i8.wrap k),.agg [ao 8,aC cd,ao nm]]) ([z0,z1,z2,z3,z4,z5,z6,rB s,z8,z9]) (xD (abz.i8.wrap k) 8 0 (aJ.r s) (aJ.m s) (aJ.af s) 0 0) ([z0,z1,z2,z3,z4,z5,z6,rB s,z8,z9,aF,aF,aF]):=by
 by_cases h0:aJ.code s=136
 ·exact (ak.ai (aU:= [0,1,2,3,4,5,6,7,8,9]) (d:=(xD (abz.i8.wrap k) 8 0 (aJ.r s) (aJ.m s) (aJ.af s) 0 0)) (s':= [z0,z1,z2,z3,z4,z5,z6,rB s,z8,z9,aF,aF,aF]) mixed (cr 8 128++ [tC (cK 136 true h0)])).cast (by first|(rfl;done)|(exfalso;(try simp only [bS,cI,cz,fO,ki,ne_eq] at*);first|omega|contradiction)) (by rfl)
 exact (ak.ai (aU:= [0,1,2,3,4,5,6,7,8,9]) (d:=(xD (abz.i8.wrap k) (aJ.w s) 0 (aJ.r s) (aJ.m s) (aJ.af s) 0 0)) (s':= [z0,z1,z2,z3,z4,z5,z6,rB s,z8,z9,aF,aF,aF]) mixed (cr 8 128++ [tC (bc h0)])).cast (by first|(rfl;done)|(exfalso;(try simp only [bS,cI,cz,fO,ki,ne_eq] at*);first|omega|contradiction)) (by rfl)
theorem Nw (s:aJ) (k:Int) (k0:0≤k) (k1:k≤31) (v0:0≤s.code) (v1:s.code≤255) (cd nm:Int) (z0 z1 z2 z3 z4 z5 z6 z8 z9:Ob) (hc:¬s.code=136):ak Z9 143 ([.ptr false 7 0,ao (abz.i8.wrap k),.agg [ao 8,aC cd,ao nm]]) ([z0,z1,z2,z3,z4,z5,z6,rB s,z8,z9]) (xD (abz.i8.wrap k) (aJ.w s) 0 (aJ.r s) (aJ.m s) (aJ.af s) 0 0) ([z0,z1,z2,z3,z4,z5,z6,rB s,z8,z9,aF,aF,aF]):=(ak.ai (aU:= [0,1,2,3,4,5,6,7,8,9]) (d:=(xD (abz.i8.wrap k) (aJ.w s) 0 (aJ.r s) (aJ.m s) (aJ.af s) 0 0)) (s':= [z0,z1,z2,z3,z4,z5,z6,rB s,z8,z9,aF,aF,aF]) mixed (cr 8 128++ [tC (by (simp only [cH] at*;omega):(aJ.code s==136)=false)])).cast (by first|(rfl;done)|(exfalso;(try simp only [bS,cI,cz,fO,ki,ne_eq] at*);first|omega|contradiction)) (by rfl)
theorem Nu (s:aJ) (k:Int) (k0:0≤k) (k1:k≤31) (v0:0≤s.code) (v1:s.code≤255) (cd nm:Int) (z0 z1 z2 z3 z4 z5 z6 z8 z9:Ob) (hl:s.eO=true):ak Z9 143 ([.ptr false 7 0,ao (abz.i8.wrap k),.agg [ao 9,aC cd,ao nm]]) ([z0,z1,z2,z3,z4,z5,z6,ay [ao (aJ.w s),ax (aJ.eO s),aC (aJ.code s),ao (aJ.r s),ao (aJ.m s),av (aJ.af s),av (aJ.aj s),av (aJ.small s),av (aJ.gk s),av (aJ.gY s),ao (aJ.high s)],z8,z9]) (xD (abz.i8.wrap k) 32 0 0 0 0 (aJ.gk s) 0) ([z0,z1,z2,z3,z4,z5,z6,ay [ao (aJ.w s),ax (aJ.eO s),aC (aJ.code s),ao (aJ.r s),ao (aJ.m s),av (aJ.af s),av (aJ.aj s),av (aJ.small s),av (aJ.gk s),av (aJ.gY s),ao (aJ.high s)],z8,z9,aF,aF,aF]):=(ak.ai (aU:= [0,1,2,3,4,5,6,7,8,9]) (d:=(xD (abz.i8.wrap k) 32 0 0 0 0 (aJ.gk s) 0)) (s':= [z0,z1,z2,z3,z4,z5,z6,rB s,z8,z9,aF,aF,aF]) mixed ((cr 11 768++ [tC (eT (nt hl)),tC (eT (nt hl)),tC (eT (nt hl)),tC (eT (nt hl)),tC (eT (nt hl))])++ [tC (nt hl),tF])).cast (by first|(rfl;done)|(exfalso;(try simp only [bS,cI,cz,fO,ki,ne_eq] at*);first|omega|contradiction)) (by rfl)
theorem Nt (s:aJ) (k:Int) (k0:0≤k) (k1:k≤31) (v0:0≤s.code) (v1:s.code≤255) (cd nm:Int) (z0 z1 z2 z3 z4 z5 z6 z8 z9:Ob) (hl:s.eO=false) (hc:s.code=233):ak Z9 143 ([.ptr false 7 0,ao (abz.i8.wrap k),.agg [ao 9,aC cd,ao nm]]) ([z0,z1,z2,z3,z4,z5,z6,ay [ao (aJ.w s),ax (aJ.eO s),aC (aJ.code s),ao (aJ.r s),ao (aJ.m s),av (aJ.af s),av (aJ.aj s),av (aJ.small s),av (aJ.gk s),av (aJ.gY s),ao (aJ.high s)],z8,z9]) (xD (abz.i8.wrap k) 32 0 0 0 0 (aJ.gk s) 0) ([z0,z1,z2,z3,z4,z5,z6,ay [ao (aJ.w s),ax (aJ.eO s),aC (aJ.code s),ao (aJ.r s),ao (aJ.m s),av (aJ.af s),av (aJ.aj s),av (aJ.small s),av (aJ.gk s),av (aJ.gY s),ao (aJ.high s)],z8,z9,aF,aF,aF]):=by
 by_cases h0:aJ.code s=233
 ·exact (ak.ai (aU:= [0,1,2,3,4,5,6,7,8,9]) (d:=(xD (abz.i8.wrap k) 32 0 0 0 0 (aJ.gk s) 0)) (s':= [z0,z1,z2,z3,z4,z5,z6,rB s,z8,z9,aF,aF,aF]) mixed ((cr 11 768++ [tC (eT (nt hl)),tC (eT (nt hl)),tC (eT (nt hl)),tC (eT (nt hl)),tC (eT (nt hl))])++ [tC (nt hl),tC (nt (cK 233 true h0))])).cast (by first|(rfl;done)|(exfalso;(try simp only [bS,cI,cz,fO,ki,ne_eq] at*);first|omega|contradiction)) (by rfl)
 exact (ak.ai (aU:= [0,1,2,3,4,5,6,7,8,9]) (d:=(xD (abz.i8.wrap k) 8 0 0 0 0 (aJ.gY s) 0)) (s':= [z0,z1,z2,z3,z4,z5,z6,rB s,z8,z9,aF,aF,aF]) mixed ((cr 11 768++ [tC (eT (nt hl)),tC (eT (nt hl)),tC (eT (nt hl)),tC (eT (nt hl)),tC (eT (nt hl))])++ [tC (nt hl),tC (nt (bc h0))])).cast (by first|(rfl;done)|(exfalso;(try simp only [bS,cI,cz,fO,ki,ne_eq] at*);first|omega|contradiction)) (by rfl)
theorem Ns (s:aJ) (k:Int) (k0:0≤k) (k1:k≤31) (v0:0≤s.code) (v1:s.code≤255) (cd nm:Int) (z0 z1 z2 z3 z4 z5 z6 z8 z9:Ob) (hl:s.eO=false) (hc:¬s.code=233):ak Z9 143 ([.ptr false 7 0,ao (abz.i8.wrap k),.agg [ao 9,aC cd,ao nm]]) ([z0,z1,z2,z3,z4,z5,z6,ay [ao (aJ.w s),ax (aJ.eO s),aC (aJ.code s),ao (aJ.r s),ao (aJ.m s),av (aJ.af s),av (aJ.aj s),av (aJ.small s),av (aJ.gk s),av (aJ.gY s),ao (aJ.high s)],z8,z9]) (xD (abz.i8.wrap k) 8 0 0 0 0 (aJ.gY s) 0) ([z0,z1,z2,z3,z4,z5,z6,ay [ao (aJ.w s),ax (aJ.eO s),aC (aJ.code s),ao (aJ.r s),ao (aJ.m s),av (aJ.af s),av (aJ.aj s),av (aJ.small s),av (aJ.gk s),av (aJ.gY s),ao (aJ.high s)],z8,z9,aF,aF,aF]):=(ak.ai (aU:= [0,1,2,3,4,5,6,7,8,9]) (d:=(xD (abz.i8.wrap k) 8 0 0 0 0 (aJ.gY s) 0)) (s':= [z0,z1,z2,z3,z4,z5,z6,rB s,z8,z9,aF,aF,aF]) mixed ((cr 11 768++ [tC (eT (nt hl)),tC (eT (nt hl)),tC (eT (nt hl)),tC (eT (nt hl)),tC (eT (nt hl))])++ [tC (nt hl),tC (nt (by (simp only [cH] at*;omega):(aJ.code s==233)=false))])).cast (by first|(rfl;done)|(exfalso;(try simp only [bS,cI,cz,fO,ki,ne_eq] at*);first|omega|contradiction)) (by rfl)
theorem LO (s:aJ) (k:Int) (k0:0≤k) (k1:k≤31) (v0:0≤s.code) (v1:s.code≤255) (cd nm:Int) (z0 z1 z2 z3 z4 z5 z6 z8 z9:Ob) (hl:s.eO=true):ak Z9 143 ([.ptr false 7 0,ao (abz.i8.wrap k),.agg [ao 10,aC cd,ao nm]]) ([z0,z1,z2,z3,z4,z5,z6,ay [ao (aJ.w s),ax (aJ.eO s),aC (aJ.code s),ao (aJ.r s),ao (aJ.m s),av (aJ.af s),av (aJ.aj s),av (aJ.small s),av (aJ.gk s),av (aJ.gY s),ao (aJ.high s)],z8,z9]) (xD (abz.i8.wrap k) 32 0 0 0 0 (aJ.gk s) (s.code%16)) ([z0,z1,z2,z3,z4,z5,z6,ay [ao (aJ.w s),ax (aJ.eO s),aC (aJ.code s),ao (aJ.r s),ao (aJ.m s),av (aJ.af s),av (aJ.aj s),av (aJ.small s),av (aJ.gk s),av (aJ.gY s),ao (aJ.high s)],z8,z9,aF,aF,aF]):=(ak.ai (aU:= [0,1,2,3,4,5,6,7,8,9]) (d:=(xD (abz.i8.wrap k) 32 0 0 0 0 (aJ.gk s) (abz.i8.wrap (abz.u8.wrap (↑(aab (Z8 8 (aJ.code s)&&&Z8 8 15)):Int))))) (s':= [z0,z1,z2,z3,z4,z5,z6,rB s,z8,z9,aF,aF,aF]) mixed ((cr 11 1536++ [tC (eT (nt hl)),tC (eT (nt hl)),tC (eT (nt hl)),tC (eT (nt hl)),tC (eT (nt hl))])++ [tC (nt hl),tF])).cast (by first|(simp only [xD,D.agg.injEq,aaI,D.int.injEq,fm,ey];exact Fw v0 v1;done)|(exfalso;(try simp only [bS,cI,cz,fO,ki,ne_eq] at*);first|omega|contradiction)) (by rfl)
theorem LN (s:aJ) (k:Int) (k0:0≤k) (k1:k≤31) (v0:0≤s.code) (v1:s.code≤255) (cd nm:Int) (z0 z1 z2 z3 z4 z5 z6 z8 z9:Ob) (hl:s.eO=false) (hc:s.code=233):ak Z9 143 ([.ptr false 7 0,ao (abz.i8.wrap k),.agg [ao 10,aC cd,ao nm]]) ([z0,z1,z2,z3,z4,z5,z6,ay [ao (aJ.w s),ax (aJ.eO s),aC (aJ.code s),ao (aJ.r s),ao (aJ.m s),av (aJ.af s),av (aJ.aj s),av (aJ.small s),av (aJ.gk s),av (aJ.gY s),ao (aJ.high s)],z8,z9]) (xD (abz.i8.wrap k) 32 0 0 0 0 (aJ.gk s) (s.code%16)) ([z0,z1,z2,z3,z4,z5,z6,ay [ao (aJ.w s),ax (aJ.eO s),aC (aJ.code s),ao (aJ.r s),ao (aJ.m s),av (aJ.af s),av (aJ.aj s),av (aJ.small s),av (aJ.gk s),av (aJ.gY s),ao (aJ.high s)],z8,z9,aF,aF,aF]):=by
 by_cases h0:aJ.code s=233
 ·exact (ak.ai (aU:= [0,1,2,3,4,5,6,7,8,9]) (d:=(xD (abz.i8.wrap k) 32 0 0 0 0 (aJ.gk s) (abz.i8.wrap (abz.u8.wrap (↑(aab (Z8 8 (aJ.code s)&&&Z8 8 15)):Int))))) (s':= [z0,z1,z2,z3,z4,z5,z6,rB s,z8,z9,aF,aF,aF]) mixed ((cr 11 1536++ [tC (eT (nt hl)),tC (eT (nt hl)),tC (eT (nt hl)),tC (eT (nt hl)),tC (eT (nt hl))])++ [tC (nt hl),tC (nt (cK 233 true h0))])).cast (by first|(simp only [xD,D.agg.injEq,aaI,D.int.injEq,fm,ey];exact Fw v0 v1;done)|(exfalso;(try simp only [bS,cI,cz,fO,ki,ne_eq] at*);first|omega|contradiction)) (by rfl)
 exact (ak.ai (aU:= [0,1,2,3,4,5,6,7,8,9]) (d:=(xD (abz.i8.wrap k) 8 0 0 0 0 (aJ.gY s) (abz.i8.wrap (abz.u8.wrap (↑(aab (Z8 8 (aJ.code s)&&&Z8 8 15)):Int))))) (s':= [z0,z1,z2,z3,z4,z5,z6,rB s,z8,z9,aF,aF,aF]) mixed ((cr 11 1536++ [tC (eT (nt hl)),tC (eT (nt hl)),tC (eT (nt hl)),tC (eT (nt hl)),tC (eT (nt hl))])++ [tC (nt hl),tC (nt (bc h0))])).cast (by first|(simp only [xD,D.agg.injEq,aaI,D.int.injEq,fm,ey];exact Fw v0 v1;done)|(exfalso;(try simp only [bS,cI,cz,fO,ki,ne_eq] at*);first|omega|contradiction)) (by rfl)
theorem LM (s:aJ) (k:Int) (k0:0≤k) (k1:k≤31) (v0:0≤s.code) (v1:s.code≤255) (cd nm:Int) (z0 z1 z2 z3 z4 z5 z6 z8 z9:Ob) (hl:s.eO=false) (hc:¬s.code=233):ak Z9 143 ([.ptr false 7 0,ao (abz.i8.wrap k),.agg [ao 10,aC cd,ao nm]]) ([z0,z1,z2,z3,z4,z5,z6,ay [ao (aJ.w s),ax (aJ.eO s),aC (aJ.code s),ao (aJ.r s),ao (aJ.m s),av (aJ.af s),av (aJ.aj s),av (aJ.small s),av (aJ.gk s),av (aJ.gY s),ao (aJ.high s)],z8,z9]) (xD (abz.i8.wrap k) 8 0 0 0 0 (aJ.gY s) (s.code%16)) ([z0,z1,z2,z3,z4,z5,z6,ay [ao (aJ.w s),ax (aJ.eO s),aC (aJ.code s),ao (aJ.r s),ao (aJ.m s),av (aJ.af s),av (aJ.aj s),av (aJ.small s),av (aJ.gk s),av (aJ.gY s),ao (aJ.high s)],z8,z9,aF,aF,aF]):=(ak.ai (aU:= [0,1,2,3,4,5,6,7,8,9]) (d:=(xD (abz.i8.wrap k) 8 0 0 0 0 (aJ.gY s) (abz.i8.wrap (abz.u8.wrap (↑(aab (Z8 8 (aJ.code s)&&&Z8 8 15)):Int))))) (s':= [z0,z1,z2,z3,z4,z5,z6,rB s,z8,z9,aF,aF,aF]) mixed ((cr 11 1536++ [tC (eT (nt hl)),tC (eT (nt hl)),tC (eT (nt hl)),tC (eT (nt hl)),tC (eT (nt hl))])++ [tC (nt hl),tC (nt (by (simp only [cH] at*;omega):(aJ.code s==233)=false))])).cast (by first|(simp only [xD,D.agg.injEq,aaI,D.int.injEq,fm,ey];exact Fw v0 v1;done)|(exfalso;(try simp only [bS,cI,cz,fO,ki,ne_eq] at*);first|omega|contradiction)) (by rfl)
theorem ND (s:aJ) (k:Int) (k0:0≤k) (k1:k≤31) (v0:0≤s.code) (v1:s.code≤255) (cd nm:Int) (z0 z1 z2 z3 z4 z5 z6 z8 z9:Ob):ak Z9 143 ([.ptr false 7 0,ao (abz.i8.wrap k),.agg [ao 11,aC cd,ao nm]]) ([z0,z1,z2,z3,z4,z5,z6,rB s,z8,z9]) (xD (abz.i8.wrap k) 0 0 0 0 0 0 0) ([z0,z1,z2,z3,z4,z5,z6,rB s,z8,z9,aF,aF,aF]):=(ak.ai (aU:= [0,1,2,3,4,5,6,7,8,9]) (d:=(xD (abz.i8.wrap k) 0 0 0 0 0 0 0)) (s':= [z0,z1,z2,z3,z4,z5,z6,rB s,z8,z9,aF,aF,aF]) mixed (cr 11 1024)).cast (by first|(rfl;done)|(exfalso;(try simp only [bS,cI,cz,fO,ki,ne_eq] at*);first|omega|contradiction)) (by rfl)
theorem FU (s:aJ) (k:Int) (k0:0≤k) (k1:k≤31) (v0:0≤s.code) (v1:s.code≤255) (hh:s.high=0∨s.high=8) (z0 z1 z2 z3 z4 z5 z6 z8 z9:Ob):
  ak Z9 143 [.ptr false 7 0,ao (abz.i8.wrap k),.agg [ao (aA k),aC (ba k),ao (bI k)]]
   [z0,z1,z2,z3,z4,z5,z6,ay [ao s.w,ax s.eO,aC s.code,ao s.r,ao s.m,av s.af,av s.aj,av s.small,av s.gk,av s.gY,ao s.high],z8,z9] (me (fK s k))
   [z0,z1,z2,z3,z4,z5,z6,ay [ao s.w,ax s.eO,aC s.code,ao s.r,ao s.m,av s.af,av s.aj,av s.small,av s.gk,av s.gY,ao s.high],z8,z9,aF,aF,aF]:=by
 have hw:=P2 k0 k1
 have fin:∀ {sh:Int} {d:D} {S1 S2:List Ob},aA k=sh→ak Z9 143 [.ptr false 7 0,ao (abz.i8.wrap k),.agg [ao sh,aC (ba k),ao (bI k)]] S1 d S2→d=me (fK s k)→
   ak Z9 143 [.ptr false 7 0,ao (abz.i8.wrap k),.agg [ao (aA k),aC (ba k),ao (bI k)]] S1 (me (fK s k)) S2:=by
  intro sh d S1 S2 e h hd
  rw [e,← hd]
  exact h
 rcases BS k0 k1 with h|h|h|h|h|h|h|h|h|h|h
 ·exact fin h (PS s k k0 k1 v0 v1 _ _ z0 z1 z2 z3 z4 z5 z6 z8 z9) (by simp [fK,mR,me,h,hw])
 ·exact fin h (PR s k k0 k1 v0 v1 _ _ z0 z1 z2 z3 z4 z5 z6 z8 z9) (by simp [fK,mR,me,h,hw])
 ·by_cases hk:k=1
  ·by_cases hc:s.code<184
   ·exact fin h (NB s k k0 k1 v0 v1 _ _ z0 z1 z2 z3 z4 z5 z6 z8 z9 hk hc) (by simp [fK,mR,me,h,hw];rw [if_neg (by omega)];simp)
   ·by_cases hd:s.code<192
    ·exact fin h (NA s k k0 k1 v0 v1 _ _ z0 z1 z2 z3 z4 z5 z6 z8 z9 hk (by omega) hd hh) (by simp [fK,mR,me,h,hw];rw [if_pos (by omega)];simp)
    ·exact fin h (NC s k k0 k1 v0 v1 _ _ z0 z1 z2 z3 z4 z5 z6 z8 z9 hk (by omega)) (by simp [fK,mR,me,h,hw];rw [if_neg (by omega)];simp)
  ·exact fin h (Nz s k k0 k1 v0 v1 _ _ z0 z1 z2 z3 z4 z5 z6 z8 z9 hk) (by simp [fK,mR,me,h,hw,hk])
 ·exact fin h (PQ s k k0 k1 v0 v1 _ _ z0 z1 z2 z3 z4 z5 z6 z8 z9) (by simp [fK,mR,me,h,hw])
 ·exact fin h (PO s k k0 k1 v0 v1 _ _ z0 z1 z2 z3 z4 z5 z6 z8 z9) (by simp [fK,mR,me,h,hw])
 ·exact fin h (PN s k k0 k1 v0 v1 _ _ z0 z1 z2 z3 z4 z5 z6 z8 z9) (by simp [fK,mR,me,h,hw])
 ·cases hl:s.eO
  ·refine fin h (hl▸Ny s k k0 k1 v0 v1 _ _ z0 z1 z2 z3 z4 z5 z6 z8 z9 hl) (by simp [fK,mR,me,h,hw,hl])
  ·refine fin h (hl▸Nx s k k0 k1 v0 v1 _ _ z0 z1 z2 z3 z4 z5 z6 z8 z9 hl) (by simp [fK,mR,me,h,hw,hl])
 ·by_cases hc:s.code=136
  ·exact fin h (Nv s k k0 k1 v0 v1 _ _ z0 z1 z2 z3 z4 z5 z6 z8 z9 hc) (by simp [fK,mR,me,h,hw,hc])
  ·exact fin h (Nw s k k0 k1 v0 v1 _ _ z0 z1 z2 z3 z4 z5 z6 z8 z9 hc) (by simp [fK,mR,me,h,hw,hc])
 ·cases hl:s.eO
  ·by_cases hc:s.code=233
   ·exact fin h (hl▸Nt s k k0 k1 v0 v1 _ _ z0 z1 z2 z3 z4 z5 z6 z8 z9 hl hc) (by simp [fK,mR,me,h,hw,hc])
   ·exact fin h (hl▸Ns s k k0 k1 v0 v1 _ _ z0 z1 z2 z3 z4 z5 z6 z8 z9 hl hc) (by simp [fK,mR,me,h,hw,hl,hc])
  ·exact fin h (hl▸Nu s k k0 k1 v0 v1 _ _ z0 z1 z2 z3 z4 z5 z6 z8 z9 hl) (by simp [fK,mR,me,h,hw,hl])
 ·cases hl:s.eO
  ·by_cases hc:s.code=233
   ·exact fin h (hl▸LN s k k0 k1 v0 v1 _ _ z0 z1 z2 z3 z4 z5 z6 z8 z9 hl hc) (by simp [fK,mR,me,h,hw,hc])
   ·exact fin h (hl▸LM s k k0 k1 v0 v1 _ _ z0 z1 z2 z3 z4 z5 z6 z8 z9 hl hc) (by simp [fK,mR,me,h,hw,hl,hc])
  ·exact fin h (hl▸LO s k k0 k1 v0 v1 _ _ z0 z1 z2 z3 z4 z5 z6 z8 z9 hl) (by simp [fK,mR,me,h,hw,hl])
 ·exact fin h (ND s k k0 k1 v0 v1 _ _ z0 z1 z2 z3 z4 z5 z6 z8 z9) (by simp [fK,mR,me,h,hw])
def uG:List D:=(List.range 32).flatMap fun n:Nat=> [ao (aA n),aC (ba n),ao (bI n)]
theorem KC (n:Nat) (hn:n<32):aP Z9 73 ([ao n]) (.aL [.agg [ao (aA n),aC (ba n),ao (bI n)],ax true]):=
 RY [aO,tT,tT,tT,tF,tF,tT,.po uG (3*n) 3 ((uG.drop (3*n)).take 3) ⟨rfl,by show 3*n+3≤96;omega⟩] (by (iterate 32 (rcases n with _|n; · kernel_rfl));omega)
theorem G0 (op:Int) (h:op<0):aP Z9 73 ([ao op]) (.aL [.agg [ao 0,aC 0,ao 0],ax false]):=
 RY ([aO]++Z7 3 (tC (eF (b8 h)))++ [tC (b8 h),tT]) (by kernel_rfl)
theorem CU (op:Int) (h:32≤op) (ho:op≤127):aP Z9 73 ([ao op]) (.aL [.agg [ao 0,aC 0,ao 0],ax false]):=
 have e:decide (op<0)=false:=bF (by omega)
 RY ([aO]++Z7 3 (tC (eF e))++ [tC e,tC (bQ 32 (by (simp only [cH] at*;omega):(decide (abz.wrap abz.i64 op<32))=false))]) (by kernel_rfl)
theorem nH {p q:Bool} (h:p=q):wk (ax p) (ax q):=by rw [h];simp [wk]
def vO {p v:Bool} (_:p=v):Bool:=v
def eR {y c:Int} {v:Bool} (h:decide (y<c)=v):EL:= [tC (eT (bQ c h rfl)),tC (eT (bQ c h rfl)),tC (bQ c h rfl)]
def e3 {n c:Int} {v:Bool} (h:(n==c)=v):EL:= [tC (eF h),tC (eF h),tC h]
theorem bU (n a b:Int):aP Z9 100 ([av n,av a,av b]) (ax (decide (a≤n)&&decide (n≤b))):=by
 rcases cf (decide (n≥a)) with h|h<;>exact (R9 (d:= .bool (vO h&&decide (n≤b))) [tC (eT h),tC (eT h),tC (eT h),tC h]).to (nH (by simp_all [vO]))
theorem dU (n:Int):aP Z9 99 ([ao n]) (ax (cg n)):=by
 rcases cf (decide (n<0)) with h|h<;>exact (Tj (d:= .bool (!vO h&&decide (n<16))) (eR h)).to (nH (by grind [vO,cg]))
theorem dh (n:Int):aP Z9 61 ([ao n]) (ax (cg n)):=by
 rcases cf (decide (n<0)) with h|h<;>exact (Tx (d:= .bool (!vO h&&decide (n<16))) (eR h)).to (nH (by grind [vO,cg]))
theorem dP (n:Int):aP Z9 62 ([av n]) (ax (decide (-2147483648≤n∧n≤2147483647))):=by
 rcases cf (decide (n<(-2147483648))) with h|h<;>exact (Tw (d:= .bool (!vO h&&decide (n<2147483648))) (eR h)).to (nH (by grind [vO,cg]))
theorem EK (n:Int):aP Z9 66 ([av n]) (ax (decide (-128≤n∧n≤127))):=by
 rcases cf (decide (n<(-128))) with h|h<;>exact (Ts (d:= .bool (!vO h&&decide (n<128))) (eR h)).to (nH (by grind [vO,cg]))
theorem rD (n:Int):aP Z9 101 ([ao n]) (ax (kO n)):=by
 rcases cf (decide (n<2)) with h|h<;>rcases cf (decide (n<8)) with k|k<;>rcases cf (decide (n<12)) with l|l<;>first|(simp at h k l;omega)|exact (R8 (d:= .bool (!vO h&&(vO k|| !vO l&&decide (n≤15)))) (eR h++if vO h then [tT,tT,tT,tC (eT (bQ 12 l)),tC (eT (bQ 12 l)),tT,tC (bQ 12 l),tF] else if vO k then Z7 4 (tC (eF (eH 7 k)))++ [tC (eH 7 k)] else Z7 3 (tC (eF (eH 7 k)))++ [tC (eT (bQ 12 l)),tC (eT (bQ 12 l)),tC (eF (eH 7 k)),tC (bQ 12 l),tC (eH 7 k)])).to (nH (by grind [vO,kO]))
theorem Cx (n:Int):aP Z9 64 ([ao n]) (ax (kO n)):=by
 rcases cf (decide (n<2)) with h|h<;>rcases cf (decide (n<8)) with k|k<;>rcases cf (decide (n<12)) with l|l<;>first|(simp at h k l;omega)|exact (Tu (d:= .bool (!vO h&&(vO k|| !vO l&&decide (n≤15)))) (eR h++if vO h then [tT,tT,tT,tC (eT (bQ 12 l)),tC (eT (bQ 12 l)),tT,tC (bQ 12 l),tF] else if vO k then Z7 4 (tC (eF (eH 7 k)))++ [tC (eH 7 k)] else Z7 3 (tC (eF (eH 7 k)))++ [tC (eT (bQ 12 l)),tC (eT (bQ 12 l)),tC (eF (eH 7 k)),tC (bQ 12 l),tC (eH 7 k)])).to (nH (by grind [vO,kO]))
theorem kX (n:Int):aP Z9 102 ([ao n]) (ax (fS n)):=by
 rcases cf (n==8) with h|h<;>rcases cf (n==16) with k|k<;>rcases cf (n==32) with l|l<;>rcases cf (n==64) with m|m<;>exact (R7 (d:= .bool (vO h||(vO k||(vO l||vO m)))) (tC h::if vO h then [tC h] else tC k::if vO k then [tC k] else tC l::if vO l then [tC l] else [tC m])).to (nH (by grind [vO,fS]))
theorem ig (n:Int):aP Z9 65 ([ao n]) (ax (fS n)):=by
 rcases cf (n==8) with h|h<;>rcases cf (n==16) with k|k<;>rcases cf (n==32) with l|l<;>exact (Tt (d:= .bool (vO h||(vO k||(vO l||n==64)))) (e3 h++if vO h then [tF,tF,tT,tF,tF,tT] else e3 k++if vO k then [tF,tF,tT] else e3 l)).to (nH (by grind [vO,fS]))
theorem k7 (n:Int):aP Z9 63 ([ao n]) (ax (bG n)):=by
 rcases cf (n==32) with h|h<;>exact (Tv (d:= .bool (vO h||n==64)) (e3 h)).to (nH (by grind [vO,bG]))
def SM:List Nat:= [0,2,3,4,5,6,7,8,16,1,9,10,11,12,13,14,15,17,18,19,20,21,22,23,24,25,26,27,28,29,30,31]
theorem Lx (n:Nat) (hn:n<32):aP Z9 58 ([ao n]) (av (bm n)):=
 SK (Z7 (SM.idxOf n) tF++if n∈ [15,16,19,24,25,26,27,28,29,31] then [tT] else [tT,tT]) (by (iterate 32 (rcases n with _|n; · kernel_rfl));omega)
theorem aG (op:Int):aP Z9 58 ([ao op]) (av (bm op)):=by
 by_cases h:0≤op∧op<32
 · obtain ⟨n,rfl⟩:=Int.eq_ofNat_of_zero_le h.1
   exact Lx n (by omega)
 have k:∀i:Fin 32,(op==(i.1:Int))=false:=fun i=>bc (by have:=i.2;omega)
 exact (SK (d:= .int .i64 0) (SM.map fun i=>tC (k (Fin.ofNat 32 i)))).to (by (simp only [wk,D.int.injEq,fm];unfold bm aA;(repeat split)<;>omega))
theorem lA {op:Int} (h:op<0∨32≤op):aA op=0∧ba op=0∧bI op=0:=by
 refine ⟨?_,?_,?_⟩
 ·unfold aA;repeat (rw [if_neg (by omega)])
 ·unfold ba;repeat (rw [if_neg (by omega)])
 ·unfold bI;repeat (rw [if_neg (by omega)])
theorem da (op:Int) (ho:op≤127):aP Z9 73 [ao op] (.aL [.agg [ao (aA op),aC (ba op),ao (bI op)],ax (decide (0≤op∧op≤31))]):=by
 by_cases h:0≤op∧op≤31
 ·obtain ⟨n,rfl⟩:=Int.eq_ofNat_of_zero_le h.1
  rw [b8 h]
  exact KC n (by omega)
 obtain ⟨e1,e2,e3⟩:= @lA op (by omega)
 rw [e1,e2,e3,bF h]
 by_cases k:op<0
 ·exact G0 op k
 ·exact CU op (by omega) ho
def F4:List D:= [ao 0,ao 0,ao 0,ao 0,ao 0,av 0,av 0,ao 0]
theorem mo {a b c d e f g h:Int} (k:bZ [ao a,ao b,ao c,ao d,ao e,av f,av g,ao h] F4=true):wk (xD 0 0 0 0 0 0 0 0) (xD a b c d e f g h):=by
 simp [bZ,kL,F4] at k
 simp [wk,bf,k]
def eB {P:Program} (m n:Nat):List (Ev P):=Z7 m tF++Z7 n tT++ [tF,tF]
theorem IV (op w ab ae aa af aj cc sh:Int) (h:(sh==1)=true):aP Z9 98 [xD op w ab ae aa af aj cc,ao sh] (xD 0 0 0 0 aa af aj cc):=by
 obtain rfl:=eq_of_beq h
 rcases cf (bZ [ao 0,ao 0,ao 0,ao 0,ao aa,av af,av aj,ao cc] F4) with h|h
 ·exact (tY (d:=xD 0 0 0 0 0 0 0 0) (eB 0 4++ [.flat _ _ cW,tC (nt h)])).to (mo h)
 exact tY (eB 0 4++ [.flat _ _ cW,tC (nt h)]) (by kernel_rfl)
theorem IU (op w ab ae aa af aj cc sh:Int) (h:(sh==2)=true):aP Z9 98 [xD op w ab ae aa af aj cc,ao sh] (xD 0 0 0 0 aa af aj cc):=by
 obtain rfl:=eq_of_beq h
 rcases cf (bZ [ao 0,ao 0,ao 0,ao 0,ao aa,av af,av aj,ao cc] F4) with h|h
 ·exact (tY (d:=xD 0 0 0 0 0 0 0 0) (eB 1 4++ [.flat _ _ cW,tC (nt h)])).to (mo h)
 exact tY (eB 1 4++ [.flat _ _ cW,tC (nt h)]) (by kernel_rfl)
theorem IT (op w ab ae aa af aj cc sh:Int) (h:(sh==3)=true):aP Z9 98 [xD op w ab ae aa af aj cc,ao sh] (xD 0 0 0 ae aa af 0 cc):=by
 obtain rfl:=eq_of_beq h
 rcases cf (bZ [ao 0,ao 0,ao 0,ao ae,ao aa,av af,av 0,ao cc] F4) with h|h
 ·exact (tY (d:=xD 0 0 0 0 0 0 0 0) (eB 3 4++ [.flat _ _ cW,tC (nt h)])).to (mo h)
 exact tY (eB 3 4++ [.flat _ _ cW,tC (nt h)]) (by kernel_rfl)
theorem IQ (op w ab ae aa af aj cc sh:Int) (h:(sh==4)=true):aP Z9 98 [xD op w ab ae aa af aj cc,ao sh] (xD 0 0 0 ae aa af 0 cc):=by
 obtain rfl:=eq_of_beq h
 rcases cf (bZ [ao 0,ao 0,ao 0,ao ae,ao aa,av af,av 0,ao cc] F4) with h|h
 ·exact (tY (d:=xD 0 0 0 0 0 0 0 0) (eB 4 3++ [.flat _ _ cW,tC (nt h)])).to (mo h)
 exact tY (eB 4 3++ [.flat _ _ cW,tC (nt h)]) (by kernel_rfl)
theorem IP (op w ab ae aa af aj cc sh:Int) (h:(sh==5)=true):aP Z9 98 [xD op w ab ae aa af aj cc,ao sh] (xD 0 0 0 ae aa af aj cc):=by
 obtain rfl:=eq_of_beq h
 rcases cf (bZ [ao 0,ao 0,ao 0,ao ae,ao aa,av af,av aj,ao cc] F4) with h|h
 ·exact (tY (d:=xD 0 0 0 0 0 0 0 0) (eB 5 3++ [.flat _ _ cW,tC (nt h)])).to (mo h)
 exact tY (eB 5 3++ [.flat _ _ cW,tC (nt h)]) (by kernel_rfl)
theorem IM (op w ab ae aa af aj cc sh:Int) (h:(sh==6)=true):aP Z9 98 [xD op w ab ae aa af aj cc,ao sh] (xD 0 0 0 0 aa af aj 0):=by
 obtain rfl:=eq_of_beq h
 rcases cf (bZ [ao 0,ao 0,ao 0,ao 0,ao aa,av af,av aj,ao 0] F4) with h|h
 ·exact (tY (d:=xD 0 0 0 0 0 0 0 0) ([tF,tF,tT,tF,tF,tT,tT]++ [.flat _ _ cW,tC (nt h)])).to (mo h)
 exact tY ([tF,tF,tT,tF,tF,tT,tT]++ [.flat _ _ cW,tC (nt h)]) (by kernel_rfl)
theorem IL (op w ab ae aa af aj cc sh:Int) (h:(sh==7)=true):aP Z9 98 [xD op w ab ae aa af aj cc,ao sh] (xD 0 0 0 ae 0 0 aj cc):=by
 obtain rfl:=eq_of_beq h
 rcases cf (bZ [ao 0,ao 0,ao 0,ao ae,ao 0,av 0,av aj,ao cc] F4) with h|h
 ·exact (tY (d:=xD 0 0 0 0 0 0 0 0) (eB 6 3++ [.flat _ _ cW,tC (nt h)])).to (mo h)
 exact tY (eB 6 3++ [.flat _ _ cW,tC (nt h)]) (by kernel_rfl)
theorem IK (op w ab ae aa af aj cc sh:Int) (h:(sh==8)=true):aP Z9 98 [xD op w ab ae aa af aj cc,ao sh] (xD 0 0 ab 0 0 0 aj cc):=by
 obtain rfl:=eq_of_beq h
 rcases cf (bZ [ao 0,ao 0,ao ab,ao 0,ao 0,av 0,av aj,ao cc] F4) with h|h
 ·exact (tY (d:=xD 0 0 0 0 0 0 0 0) (eB 7 3++ [.flat _ _ cW,tC (nt h)])).to (mo h)
 exact tY (eB 7 3++ [.flat _ _ cW,tC (nt h)]) (by kernel_rfl)
theorem IJ (op w ab ae aa af aj cc sh:Int) (h:(sh==9)=true):aP Z9 98 [xD op w ab ae aa af aj cc,ao sh] (xD 0 0 ab ae aa af 0 cc):=by
 obtain rfl:=eq_of_beq h
 rcases cf (bZ [ao 0,ao 0,ao ab,ao ae,ao aa,av af,av 0,ao cc] F4) with h|h
 ·exact (tY (d:=xD 0 0 0 0 0 0 0 0) (eB 8 4++ [.flat _ _ cW,tC (nt h)])).to (mo h)
 exact tY (eB 8 4++ [.flat _ _ cW,tC (nt h)]) (by kernel_rfl)
theorem El (op w ab ae aa af aj cc sh:Int) (h:(sh==10)=true):aP Z9 98 [xD op w ab ae aa af aj cc,ao sh] (xD 0 0 ab ae aa af 0 0):=by
 obtain rfl:=eq_of_beq h
 rcases cf (bZ [ao 0,ao 0,ao ab,ao ae,ao aa,av af,av 0,ao 0] F4) with h|h
 ·exact (tY (d:=xD 0 0 0 0 0 0 0 0) (Z7 9 tF++ [tT,tT,tT,tF,tT]++ [.flat _ _ cW,tC (nt h)])).to (mo h)
 exact tY (Z7 9 tF++ [tT,tT,tT,tF,tT]++ [.flat _ _ cW,tC (nt h)]) (by kernel_rfl)
theorem Ek (op w ab ae aa af aj cc sh:Int) (h:(sh==11)=true):aP Z9 98 [xD op w ab ae aa af aj cc,ao sh] (xD 0 w ab ae aa af aj cc):=by
 obtain rfl:=eq_of_beq h
 rcases cf (bZ [ao 0,ao w,ao ab,ao ae,ao aa,av af,av aj,ao cc] F4) with h|h
 ·exact (tY (d:=xD 0 0 0 0 0 0 0 0) (eB 10 2++ [.flat _ _ cW,tC (nt h)])).to (mo h)
 exact tY (eB 10 2++ [.flat _ _ cW,tC (nt h)]) (by kernel_rfl)
theorem sM:type_of%(aaj @bC.eq_1 (aaj @cg.eq_1 (aaj @iy.eq_1 (aaj @bG.eq_1 (aaj @fS.eq_1 (aaj @mb.eq_1 @kO.eq_1)))))):=(aaj @bC.eq_1 (aaj @cg.eq_1 (aaj @iy.eq_1 (aaj @bG.eq_1 (aaj @fS.eq_1 (aaj @mb.eq_1 @kO.eq_1))))))
theorem Hx (op w ab ae aa af aj cc:Int) (ho:op≤127) (h:(aA op==0)=true) (Ue:decide (0≤op∧op≤31)=false):aP Z9 72 ([xD op w ab ae aa af aj cc]) (ax (bC op w ab ae aa af aj cc)):=by
 have c0:= @da op ho
 rw [show (aA op)=0 from (eq_of_beq h)] at c0
 generalize g2:ba op=r1 at c0
 generalize g4:bI op=r3 at c0
 exact (eg (d:= .bool false) ([aw c0]++Z7 6 (tC (eF (nt Ue)))++([tC (nt Ue)]++cr 26 50872848))).to (by (try simp only [ct,aE,sM] at*);(simp [aE,sM, *];done))
theorem Hw (op w ab ae aa af aj cc:Int) (ho:op≤127) (h:(aA op==1)=true) (Ue:decide (0≤op∧op≤31)=true):aP Z9 72 ([xD op w ab ae aa af aj cc]) (ax (bC op w ab ae aa af aj cc)):=by
 have c0:= @da op ho
 rw [show (aA op)=1 from (eq_of_beq h)] at c0
 generalize g2:ba op=r1 at c0
 generalize g4:bI op=r3 at c0
 have c5:= @IV op w ab ae aa af aj cc 1 (rfl:true=true)
 let E1:EL:=([aw c0]++Z7 4 (tC (eF (nt Ue)))++ [aw c5,tC (eF (nt Ue)),tC (eF (nt Ue)),.flat _ _ cW,tC (nt Ue)])
 rcases cf (bZ [ao 0,ao 0,ao 0,ao 0,ao aa,av af,av aj,ao cc] [ao 0,ao 0,ao 0,ao 0,ao 0,av 0,av 0,ao 0]) with h6|h6
 ·have c7:= @dU ab
  generalize g9:cg ab=r8 at c7
  let E2:EL:=E1++Z7 3 (tC (eF (nt h6)))++ [aw c7,tC (eF (nt h6)),tC (nt h6)]
  cases r8
  ·exact (eg (d:= .bool false) (E2++(cr 21 1589776))).to (by clear E1 E2;(try simp only [ct,aE,sM] at*);(simp [aE,sM, *];done))
  have T7:= @dU ae
  generalize g12:cg ae=Un at T7
  let E3:EL:=E2++ [tT,tT,tT,aw T7,tT,tF]
  cases Un
  ·exact (eg (d:= .bool false) (E3++(cr 16 49680))).to (by clear E1 E2 E3;(try simp only [ct,aE,sM] at*);(simp [aE,sM, *];done))
  have Uh:= @dU aa
  generalize g15:cg aa=UD at Uh
  let E4:EL:=E3++ [tT,tT,tT,aw Uh,tT,tF]
  cases UD
  ·exact (eg (d:= .bool false) (E4++(cr 11 1552))).to (by clear E1 E2 E3 E4;(try simp only [ct,aE,sM] at*);(simp [aE,sM, *];done))
  have Ui:= @bU af (-2147483648) 2147483647
  let E5:EL:=E4++ [tT,tT,tT,aw Ui,tT,tF]
  rcases cf (decide (af<(-2147483648))) with h17|h17
  ·exact (eg (d:= .bool false) (E5++Z7 4 (tC (eF (nt (ic (y:=decide (af≤2147483647)) (bQ (-2147483648) h17)))))++ [tC (nt (ic (y:=decide (af≤2147483647)) (bQ (-2147483648) h17))),tT])).to (by clear E1 E2 E3 E4 E5;(try simp only [ct,aE,sM] at*);(simp [aE,sM, *];omega))
  rcases cf (decide (af<2147483648)) with h18|h18
  ·have U6:= @bU aj (-2147483648) 2147483647
   let E6:EL:=E5++Z7 3 (tC (eF (nt (dt (bQ (-2147483648) h17) (eH 2147483647 h18)))))++ [aw U6,tC (eF (nt (dt (bQ (-2147483648) h17) (eH 2147483647 h18)))),tC (nt (dt (bQ (-2147483648) h17) (eH 2147483647 h18)))]
   rcases cf (decide (aj<(-2147483648))) with h20|h20
   ·exact (eg (d:= .bool false) (E6++ [tC (nt (ic (y:=decide (aj≤2147483647)) (bQ (-2147483648) h20)))])).to (by clear E1 E2 E3 E4 E5 E6;(try simp only [ct,aE,sM] at*);(simp [aE,sM, *];omega))
   rcases cf (decide (aj<2147483648)) with h21|h21
   ·let E7:EL:=E6++ [tC (nt (dt (bQ (-2147483648) h20) (eH 2147483647 h21)))]
    by_cases h22:w=32
    ·subst h22
     exact (eg (d:= .bool true) (E7++(cr 12 3592))).to (by clear E1 E2 E3 E4 E5 E6 E7;(try simp only [ct,aE,sM] at*);(rw [aai];simp [aE,sM, *];grind))
    let E8:EL:=E7++Z7 3 (tC (eF (bc h22)))++ [tC (bc h22)]++Z7 4 (tC (eF (bc h22)))
    by_cases h23:w=8
    ·subst h23
     have Vg:= @bU aj (-128) 127
     exact (eg (d:= .bool false) (E8++ [tT,tT,tT,aw Vg,tT,tT,tF,tT,tT])).to (by clear E1 E2 E3 E4 E5 E6 E7 E8;(try simp only [ct,aE,sM] at*);(simp [aE,sM, *];done))
    exact (eg (d:= .bool (w==64)) (E8++Z7 3 (tC (eT (bc h23)))++ [tC (eF (bc h22)),tC (bc h23),tC (bc h22),tT,tT])).to (by clear E1 E2 E3 E4 E5 E6 E7 E8;(try simp only [ct,aE,sM] at*);(rw [aai];simp [aE,sM, *];grind))
   exact (eg (d:= .bool false) (E6++ [tC (nt (dt (bQ (-2147483648) h20) (eH 2147483647 h21)))])).to (by clear E1 E2 E3 E4 E5 E6;(try simp only [ct,aE,sM] at*);(simp [aE,sM, *];omega))
  exact (eg (d:= .bool false) (E5++Z7 4 (tC (eF (nt (dt (bQ (-2147483648) h17) (eH 2147483647 h18)))))++ [tC (nt (dt (bQ (-2147483648) h17) (eH 2147483647 h18))),tT])).to (by clear E1 E2 E3 E4 E5;(try simp only [ct,aE,sM] at*);(simp [aE,sM, *];omega))
 exact (eg (d:= .bool false) (E1++Z7 4 (tC (eF (nt h6)))++([tC (nt h6)]++cr 21 1589776))).to (by clear E1;(try simp only [ct,aE,sM] at*);(rw [aai];simp [aE,sM, *];grind))
theorem Hv (op w ab ae aa af aj cc:Int) (ho:op≤127) (h:(aA op==2)=true) (Ue:decide (0≤op∧op≤31)=true):aP Z9 72 ([xD op w ab ae aa af aj cc]) (ax (bC op w ab ae aa af aj cc)):=by
 have c0:= @da op ho
 rw [show (aA op)=2 from (eq_of_beq h)] at c0
 generalize g2:ba op=r1 at c0
 generalize g4:bI op=r3 at c0
 have c5:= @IU op w ab ae aa af aj cc 2 (rfl:true=true)
 let E1:EL:=([aw c0]++Z7 4 (tC (eF (nt Ue)))++ [aw c5,tC (eF (nt Ue)),tC (eF (nt Ue)),.flat _ _ cW,tC (nt Ue)])
 rcases cf (bZ [ao 0,ao 0,ao 0,ao 0,ao aa,av af,av aj,ao cc] [ao 0,ao 0,ao 0,ao 0,ao 0,av 0,av 0,ao 0]) with h6|h6
 ·have c7:= @dU ab
  generalize g9:cg ab=r8 at c7
  let E2:EL:=E1++Z7 3 (tC (eF (nt h6)))++ [aw c7,tC (eF (nt h6)),tC (nt h6)]
  cases r8
  ·exact (eg (d:= .bool false) (E2++(cr 21 1589776))).to (by clear E1 E2;(try simp only [ct,aE,sM] at*);(simp [aE,sM, *];done))
  have T7:= @dU ae
  generalize g12:cg ae=Un at T7
  let E3:EL:=E2++ [tT,tT,tT,aw T7,tT,tF]
  cases Un
  ·exact (eg (d:= .bool false) (E3++(cr 16 49680))).to (by clear E1 E2 E3;(try simp only [ct,aE,sM] at*);(simp [aE,sM, *];done))
  have Uh:= @dU aa
  generalize g15:cg aa=UD at Uh
  let E4:EL:=E3++ [tT,tT,tT,aw Uh,tT,tF]
  cases UD
  ·exact (eg (d:= .bool false) (E4++(cr 11 1552))).to (by clear E1 E2 E3 E4;(try simp only [ct,aE,sM] at*);(simp [aE,sM, *];done))
  have Ui:= @bU af (-2147483648) 2147483647
  let E5:EL:=E4++ [tT,tT,tT,aw Ui,tT,tF]
  rcases cf (decide (af<(-2147483648))) with h17|h17
  ·exact (eg (d:= .bool false) (E5++Z7 4 (tC (eF (nt (ic (y:=decide (af≤2147483647)) (bQ (-2147483648) h17)))))++ [tC (nt (ic (y:=decide (af≤2147483647)) (bQ (-2147483648) h17))),tT])).to (by clear E1 E2 E3 E4 E5;(try simp only [ct,aE,sM] at*);(simp [aE,sM, *];omega))
  rcases cf (decide (af<2147483648)) with h18|h18
  ·have U6:= @bU aj (-2147483648) 2147483647
   let E6:EL:=E5++Z7 3 (tC (eF (nt (dt (bQ (-2147483648) h17) (eH 2147483647 h18)))))++ [aw U6,tC (eF (nt (dt (bQ (-2147483648) h17) (eH 2147483647 h18)))),tC (nt (dt (bQ (-2147483648) h17) (eH 2147483647 h18)))]
   rcases cf (decide (aj<(-2147483648))) with h20|h20
   ·exact (eg (d:= .bool false) (E6++ [tC (nt (ic (y:=decide (aj≤2147483647)) (bQ (-2147483648) h20)))])).to (by clear E1 E2 E3 E4 E5 E6;(try simp only [ct,aE,sM] at*);(simp [aE,sM, *];omega))
   rcases cf (decide (aj<2147483648)) with h21|h21
   ·let E7:EL:=E6++ [tC (nt (dt (bQ (-2147483648) h20) (eH 2147483647 h21)))]
    by_cases h22:w=32
    ·subst h22
     exact (eg (d:= .bool true) (E7++(cr 13 6664))).to (by clear E1 E2 E3 E4 E5 E6 E7;(try simp only [ct,aE,sM] at*);(rw [aai];simp [aE,sM, *];grind))
    let E8:EL:=E7++Z7 3 (tC (eF (bc h22)))++ [tC (bc h22)]++Z7 4 (tC (eF (bc h22)))
    by_cases h23:w=8
    ·subst h23
     have Vg:= @bU aj (-128) 127
     exact (eg (d:= .bool false) (E8++ [tT,tT,tT,aw Vg,tT,tT,tF,tF,tT,tT])).to (by clear E1 E2 E3 E4 E5 E6 E7 E8;(try simp only [ct,aE,sM] at*);(simp [aE,sM, *];done))
    exact (eg (d:= .bool (w==64)) (E8++Z7 3 (tC (eT (bc h23)))++ [tC (eF (bc h22)),tC (bc h23),tC (bc h22),tF,tT,tT])).to (by clear E1 E2 E3 E4 E5 E6 E7 E8;(try simp only [ct,aE,sM] at*);(rw [aai];simp [aE,sM, *];grind))
   exact (eg (d:= .bool false) (E6++ [tC (nt (dt (bQ (-2147483648) h20) (eH 2147483647 h21)))])).to (by clear E1 E2 E3 E4 E5 E6;(try simp only [ct,aE,sM] at*);(simp [aE,sM, *];omega))
  exact (eg (d:= .bool false) (E5++Z7 4 (tC (eF (nt (dt (bQ (-2147483648) h17) (eH 2147483647 h18)))))++ [tC (nt (dt (bQ (-2147483648) h17) (eH 2147483647 h18))),tT])).to (by clear E1 E2 E3 E4 E5;(try simp only [ct,aE,sM] at*);(simp [aE,sM, *];omega))
 exact (eg (d:= .bool false) (E1++Z7 4 (tC (eF (nt h6)))++([tC (nt h6)]++cr 21 1589776))).to (by clear E1;(try simp only [ct,aE,sM] at*);(rw [aai];simp [aE,sM, *];grind))
def tP (Ua:Int):Prop:= ∀(op w ab ae aa af aj cc:Int) (ho:op≤127) (h:(aA op==Ua)=true) (Ue:decide (0≤op∧op≤31)=true),aP Z9 72 ([xD op w ab ae aa af aj cc]) (ax (bC op w ab ae aa af aj cc))
theorem Hu:tP 3:=by
 intro op w ab ae aa af aj cc ho h Ue
 have c0:= @da op ho
 rw [eq_of_beq h] at c0
 generalize g2:ba op=r1 at c0
 generalize g4:bI op=r3 at c0
 have c5:= @IT op w ab ae aa af aj cc 3 (rfl:true=true)
 let E1:EL:=([aw c0]++Z7 4 (tC (eF (nt Ue)))++ [aw c5,tC (eF (nt Ue)),tC (eF (nt Ue)),.flat _ _ cW,tC (nt Ue)])
 rcases cf (bZ [ao 0,ao 0,ao 0,ao ae,ao aa,av af,av 0,ao cc] [ao 0,ao 0,ao 0,ao 0,ao 0,av 0,av 0,ao 0]) with h6|h6
 ·have c7:= @dU ab
  generalize g9:cg ab=r8 at c7
  let E2:EL:=E1++Z7 3 (tC (eF (nt h6)))++ [aw c7,tC (eF (nt h6)),tC (nt h6)]
  cases r8
  ·exact (eg (d:= .bool false) (E2++(cr 21 1589776))).to (by clear E1 E2;(try simp only [ct,aE,sM] at*);(simp [aE,sM, *];done))
  have T7:= @dU ae
  generalize g12:cg ae=Un at T7
  let E3:EL:=E2++ [tT,tT,tT,aw T7,tT,tF]
  cases Un
  ·exact (eg (d:= .bool false) (E3++(cr 16 49680))).to (by clear E1 E2 E3;(try simp only [ct,aE,sM] at*);(simp [aE,sM, *];done))
  have Uh:= @dU aa
  generalize g15:cg aa=UD at Uh
  let E4:EL:=E3++ [tT,tT,tT,aw Uh,tT,tF]
  cases UD
  ·exact (eg (d:= .bool false) (E4++(cr 11 1552))).to (by clear E1 E2 E3 E4;(try simp only [ct,aE,sM] at*);(simp [aE,sM, *];done))
  have Ui:= @bU af (-2147483648) 2147483647
  let E5:EL:=E4++ [tT,tT,tT,aw Ui,tT,tF]
  rcases cf (decide (af<(-2147483648))) with h17|h17
  ·exact (eg (d:= .bool false) (E5++Z7 4 (tC (eF (nt (ic (y:=decide (af≤2147483647)) (bQ (-2147483648) h17)))))++ [tC (nt (ic (y:=decide (af≤2147483647)) (bQ (-2147483648) h17))),tT])).to (by clear E1 E2 E3 E4 E5;(try simp only [ct,aE,sM] at*);(simp [aE,sM, *];omega))
  rcases cf (decide (af<2147483648)) with h18|h18
  ·have U6:= @bU aj (-2147483648) 2147483647
   let E6:EL:=E5++Z7 3 (tC (eF (nt (dt (bQ (-2147483648) h17) (eH 2147483647 h18)))))++ [aw U6,tC (eF (nt (dt (bQ (-2147483648) h17) (eH 2147483647 h18)))),tC (nt (dt (bQ (-2147483648) h17) (eH 2147483647 h18)))]
   rcases cf (decide (aj<(-2147483648))) with h20|h20
   ·exact (eg (d:= .bool false) (E6++ [tC (nt (ic (y:=decide (aj≤2147483647)) (bQ (-2147483648) h20)))])).to (by clear E1 E2 E3 E4 E5 E6;(try simp only [ct,aE,sM] at*);(simp [aE,sM, *];omega))
   rcases cf (decide (aj<2147483648)) with h21|h21
   ·let E7:EL:=E6++ [tC (nt (dt (bQ (-2147483648) h20) (eH 2147483647 h21)))]
    by_cases h22:w=32
    ·subst h22
     exact (eg (d:= .bool true) (E7++(cr 14 12808))).to (by clear E1 E2 E3 E4 E5 E6 E7;(try simp only [ct,aE,sM] at*);(rw [aai];simp [aE,sM, *];grind))
    let E8:EL:=E7++Z7 3 (tC (eF (bc h22)))++ [tC (bc h22)]++Z7 4 (tC (eF (bc h22)))
    by_cases h23:w=8
    ·subst h23
     have Vg:= @bU aj (-128) 127
     exact (eg (d:= .bool false) (E8++ [tT,tT,tT,aw Vg,tT,tT,tF,tF,tF,tT,tT])).to (by clear E1 E2 E3 E4 E5 E6 E7 E8;(try simp only [ct,aE,sM] at*);(simp [aE,sM, *];done))
    exact (eg (d:= .bool (w==64)) (E8++Z7 3 (tC (eT (bc h23)))++ [tC (eF (bc h22)),tC (bc h23),tC (bc h22),tF,tF,tT,tT])).to (by clear E1 E2 E3 E4 E5 E6 E7 E8;(try simp only [ct,aE,sM] at*);(rw [aai];simp [aE,sM, *];grind))
   exact (eg (d:= .bool false) (E6++ [tC (nt (dt (bQ (-2147483648) h20) (eH 2147483647 h21)))])).to (by clear E1 E2 E3 E4 E5 E6;(try simp only [ct,aE,sM] at*);(simp [aE,sM, *];omega))
  exact (eg (d:= .bool false) (E5++Z7 4 (tC (eF (nt (dt (bQ (-2147483648) h17) (eH 2147483647 h18)))))++ [tC (nt (dt (bQ (-2147483648) h17) (eH 2147483647 h18))),tT])).to (by clear E1 E2 E3 E4 E5;(try simp only [ct,aE,sM] at*);(simp [aE,sM, *];omega))
 exact (eg (d:= .bool false) (E1++Z7 4 (tC (eF (nt h6)))++([tC (nt h6)]++cr 21 1589776))).to (by clear E1;(try simp only [ct,aE,sM] at*);(rw [aai];simp [aE,sM, *];grind))
theorem Ht:tP 4:=by
 intro op w ab ae aa af aj cc ho h Ue
 have c0:= @da op ho
 rw [eq_of_beq h] at c0
 generalize g2:ba op=r1 at c0
 generalize g4:bI op=r3 at c0
 have c5:= @IQ op w ab ae aa af aj cc 4 (rfl:true=true)
 let E1:EL:=([aw c0]++Z7 4 (tC (eF (nt Ue)))++ [aw c5,tC (eF (nt Ue)),tC (eF (nt Ue)),.flat _ _ cW,tC (nt Ue)])
 rcases cf (bZ [ao 0,ao 0,ao 0,ao ae,ao aa,av af,av 0,ao cc] [ao 0,ao 0,ao 0,ao 0,ao 0,av 0,av 0,ao 0]) with h6|h6
 ·have c7:= @dU ab
  generalize g9:cg ab=r8 at c7
  let E2:EL:=E1++Z7 3 (tC (eF (nt h6)))++ [aw c7,tC (eF (nt h6)),tC (nt h6)]
  cases r8
  ·exact (eg (d:= .bool false) (E2++(cr 21 1589776))).to (by clear E1 E2;(try simp only [ct,aE,sM] at*);(simp [aE,sM, *];done))
  have T7:= @dU ae
  generalize g12:cg ae=Un at T7
  let E3:EL:=E2++ [tT,tT,tT,aw T7,tT,tF]
  cases Un
  ·exact (eg (d:= .bool false) (E3++(cr 16 49680))).to (by clear E1 E2 E3;(try simp only [ct,aE,sM] at*);(simp [aE,sM, *];done))
  have Uh:= @dU aa
  generalize g15:cg aa=UD at Uh
  let E4:EL:=E3++ [tT,tT,tT,aw Uh,tT,tF]
  cases UD
  ·exact (eg (d:= .bool false) (E4++(cr 11 1552))).to (by clear E1 E2 E3 E4;(try simp only [ct,aE,sM] at*);(simp [aE,sM, *];done))
  have Ui:= @bU af (-2147483648) 2147483647
  let E5:EL:=E4++ [tT,tT,tT,aw Ui,tT,tF]
  rcases cf (decide (af<(-2147483648))) with h17|h17
  ·exact (eg (d:= .bool false) (E5++Z7 4 (tC (eF (nt (ic (y:=decide (af≤2147483647)) (bQ (-2147483648) h17)))))++ [tC (nt (ic (y:=decide (af≤2147483647)) (bQ (-2147483648) h17))),tT])).to (by clear E1 E2 E3 E4 E5;(try simp only [ct,aE,sM] at*);(simp [aE,sM, *];omega))
  rcases cf (decide (af<2147483648)) with h18|h18
  ·have U6:= @bU aj (-2147483648) 2147483647
   let E6:EL:=E5++Z7 3 (tC (eF (nt (dt (bQ (-2147483648) h17) (eH 2147483647 h18)))))++ [aw U6,tC (eF (nt (dt (bQ (-2147483648) h17) (eH 2147483647 h18)))),tC (nt (dt (bQ (-2147483648) h17) (eH 2147483647 h18)))]
   rcases cf (decide (aj<(-2147483648))) with h20|h20
   ·exact (eg (d:= .bool false) (E6++ [tC (nt (ic (y:=decide (aj≤2147483647)) (bQ (-2147483648) h20)))])).to (by clear E1 E2 E3 E4 E5 E6;(try simp only [ct,aE,sM] at*);(simp [aE,sM, *];omega))
   rcases cf (decide (aj<2147483648)) with h21|h21
   ·let E7:EL:=E6++ [tC (nt (dt (bQ (-2147483648) h20) (eH 2147483647 h21)))]
    by_cases h22:w=32
    ·subst h22
     have Vb:= @bU aj 0 31
     exact (eg (d:= .bool (decide (0≤aj)&&decide (aj≤31))) (E7++(cr 14 520)++Z7 8 tT++ [aw Vb,tT])).to (by clear E1 E2 E3 E4 E5 E6 E7;(try simp only [ct,aE,sM] at*);(rw [aai];simp [aE,sM, *];grind))
    let E8:EL:=E7++Z7 3 (tC (eF (bc h22)))++ [tC (bc h22)]++Z7 4 (tC (eF (bc h22)))
    by_cases h24:w=8
    ·subst h24
     have Xx:= @bU aj (-128) 127
     exact (eg (d:= .bool false) (E8++([tT,tT,tT,aw Xx]++cr 8 131)++Z7 8 tF)).to (by clear E1 E2 E3 E4 E5 E6 E7 E8;(try simp only [ct,aE,sM] at*);(simp [aE,sM, *];done))
    let E9:EL:=E8++Z7 3 (tC (eT (bc h24)))++ [tC (eF (bc h22)),tC (bc h24),tC (bc h22),tF,tF,tF,tF,tT]
    by_cases h26:w=64
    ·subst h26
     have UR:= @bU aj 0 63
     exact (eg (d:= .bool (decide (0≤aj)&&decide (aj≤63))) (E9++ [tT,tT,tT,tT,tT,tT,tT,aw UR,tT])).to (by clear E1 E2 E3 E4 E5 E6 E7 E8 E9;(try simp only [ct,aE,sM] at*);(rw [aai];simp [aE,sM, *];grind))
    exact (eg (d:= .bool false) (E9++Z7 7 (tC (eT (bc h26)))++ [tC (bc h26)])).to (by clear E1 E2 E3 E4 E5 E6 E7 E8 E9;(try simp only [ct,aE,sM] at*);(simp [aE,sM, *];done))
   exact (eg (d:= .bool false) (E6++ [tC (nt (dt (bQ (-2147483648) h20) (eH 2147483647 h21)))])).to (by clear E1 E2 E3 E4 E5 E6;(try simp only [ct,aE,sM] at*);(simp [aE,sM, *];omega))
  exact (eg (d:= .bool false) (E5++Z7 4 (tC (eF (nt (dt (bQ (-2147483648) h17) (eH 2147483647 h18)))))++ [tC (nt (dt (bQ (-2147483648) h17) (eH 2147483647 h18))),tT])).to (by clear E1 E2 E3 E4 E5;(try simp only [ct,aE,sM] at*);(simp [aE,sM, *];omega))
 exact (eg (d:= .bool false) (E1++Z7 4 (tC (eF (nt h6)))++([tC (nt h6)]++cr 21 1589776))).to (by clear E1;(try simp only [ct,aE,sM] at*);(rw [aai];simp [aE,sM, *];grind))
theorem Hs:tP 5:=by
 intro op w ab ae aa af aj cc ho h Ue
 have c0:= @da op ho
 rw [eq_of_beq h] at c0
 generalize g2:ba op=r1 at c0
 generalize g4:bI op=r3 at c0
 have c5:= @IP op w ab ae aa af aj cc 5 (rfl:true=true)
 let E1:EL:=([aw c0]++Z7 4 (tC (eF (nt Ue)))++ [aw c5,tC (eF (nt Ue)),tC (eF (nt Ue)),.flat _ _ cW,tC (nt Ue)])
 rcases cf (bZ [ao 0,ao 0,ao 0,ao ae,ao aa,av af,av aj,ao cc] [ao 0,ao 0,ao 0,ao 0,ao 0,av 0,av 0,ao 0]) with h6|h6
 ·have c7:= @dU ab
  generalize g9:cg ab=r8 at c7
  let E2:EL:=E1++Z7 3 (tC (eF (nt h6)))++ [aw c7,tC (eF (nt h6)),tC (nt h6)]
  cases r8
  ·exact (eg (d:= .bool false) (E2++(cr 21 1589776))).to (by clear E1 E2;(try simp only [ct,aE,sM] at*);(simp [aE,sM, *];done))
  have T7:= @dU ae
  generalize g12:cg ae=Un at T7
  let E3:EL:=E2++ [tT,tT,tT,aw T7,tT,tF]
  cases Un
  ·exact (eg (d:= .bool false) (E3++(cr 16 49680))).to (by clear E1 E2 E3;(try simp only [ct,aE,sM] at*);(simp [aE,sM, *];done))
  have Uh:= @dU aa
  generalize g15:cg aa=UD at Uh
  let E4:EL:=E3++ [tT,tT,tT,aw Uh,tT,tF]
  cases UD
  ·exact (eg (d:= .bool false) (E4++(cr 11 1552))).to (by clear E1 E2 E3 E4;(try simp only [ct,aE,sM] at*);(simp [aE,sM, *];done))
  have Ui:= @bU af (-2147483648) 2147483647
  let E5:EL:=E4++ [tT,tT,tT,aw Ui,tT,tF]
  rcases cf (decide (af<(-2147483648))) with h17|h17
  ·exact (eg (d:= .bool false) (E5++Z7 4 (tC (eF (nt (ic (y:=decide (af≤2147483647)) (bQ (-2147483648) h17)))))++ [tC (nt (ic (y:=decide (af≤2147483647)) (bQ (-2147483648) h17))),tT])).to (by clear E1 E2 E3 E4 E5;(try simp only [ct,aE,sM] at*);(simp [aE,sM, *];omega))
  rcases cf (decide (af<2147483648)) with h18|h18
  ·have U6:= @bU aj (-2147483648) 2147483647
   let E6:EL:=E5++Z7 3 (tC (eF (nt (dt (bQ (-2147483648) h17) (eH 2147483647 h18)))))++ [aw U6,tC (eF (nt (dt (bQ (-2147483648) h17) (eH 2147483647 h18)))),tC (nt (dt (bQ (-2147483648) h17) (eH 2147483647 h18)))]
   rcases cf (decide (aj<(-2147483648))) with h20|h20
   ·exact (eg (d:= .bool false) (E6++ [tC (nt (ic (y:=decide (aj≤2147483647)) (bQ (-2147483648) h20)))])).to (by clear E1 E2 E3 E4 E5 E6;(try simp only [ct,aE,sM] at*);(simp [aE,sM, *];omega))
   rcases cf (decide (aj<2147483648)) with h21|h21
   ·let E7:EL:=E6++ [tC (nt (dt (bQ (-2147483648) h20) (eH 2147483647 h21)))]
    by_cases h22:w=32
    ·subst h22
     exact (eg (d:= .bool true) (E7++(cr 14 8712))).to (by clear E1 E2 E3 E4 E5 E6 E7;(try simp only [ct,aE,sM] at*);(rw [aai];simp [aE,sM, *];grind))
    let E8:EL:=E7++Z7 3 (tC (eF (bc h22)))++ [tC (bc h22)]++Z7 4 (tC (eF (bc h22)))
    by_cases h23:w=8
    ·subst h23
     have Vg:= @bU aj (-128) 127
     exact (eg (d:= .bool false) (E8++ [tT,tT,tT,aw Vg,tT,tT,tF,tF,tF,tF,tT])).to (by clear E1 E2 E3 E4 E5 E6 E7 E8;(try simp only [ct,aE,sM] at*);(simp [aE,sM, *];done))
    exact (eg (d:= .bool (w==64)) (E8++Z7 3 (tC (eT (bc h23)))++ [tC (eF (bc h22)),tC (bc h23),tC (bc h22),tF,tF,tF,tT])).to (by clear E1 E2 E3 E4 E5 E6 E7 E8;(try simp only [ct,aE,sM] at*);(rw [aai];simp [aE,sM, *];grind))
   exact (eg (d:= .bool false) (E6++ [tC (nt (dt (bQ (-2147483648) h20) (eH 2147483647 h21)))])).to (by clear E1 E2 E3 E4 E5 E6;(try simp only [ct,aE,sM] at*);(simp [aE,sM, *];omega))
  exact (eg (d:= .bool false) (E5++Z7 4 (tC (eF (nt (dt (bQ (-2147483648) h17) (eH 2147483647 h18)))))++ [tC (nt (dt (bQ (-2147483648) h17) (eH 2147483647 h18))),tT])).to (by clear E1 E2 E3 E4 E5;(try simp only [ct,aE,sM] at*);(simp [aE,sM, *];omega))
 exact (eg (d:= .bool false) (E1++Z7 4 (tC (eF (nt h6)))++([tC (nt h6)]++cr 21 1589776))).to (by clear E1;(try simp only [ct,aE,sM] at*);(rw [aai];simp [aE,sM, *];grind))
def tN (Ua:Int):Prop:= ∀(op w ab ae aa af aj cc:Int) (ho:op≤127) (h:(aA op==Ua)=true) (Ue:decide (0≤op∧op≤31)=true),aP Z9 72 ([xD op w ab ae aa af aj cc]) (ax (bC op w ab ae aa af aj cc))
theorem Hr:tN 6:=by
 intro op w ab ae aa af aj cc ho h Ue
 have c0:= @da op ho
 rw [eq_of_beq h] at c0
 generalize g2:ba op=r1 at c0
 generalize g4:bI op=r3 at c0
 have c5:= @IM op w ab ae aa af aj cc 6 (rfl:true=true)
 let E1:EL:=([aw c0]++Z7 4 (tC (eF (nt Ue)))++ [aw c5,tC (eF (nt Ue)),tC (eF (nt Ue)),.flat _ _ cW,tC (nt Ue)])
 rcases cf (bZ [ao 0,ao 0,ao 0,ao 0,ao aa,av af,av aj,ao 0] [ao 0,ao 0,ao 0,ao 0,ao 0,av 0,av 0,ao 0]) with h6|h6
 ·have c7:= @dU ab
  generalize g9:cg ab=r8 at c7
  let E2:EL:=E1++Z7 3 (tC (eF (nt h6)))++ [aw c7,tC (eF (nt h6)),tC (nt h6)]
  cases r8
  ·exact (eg (d:= .bool false) (E2++(cr 21 1589776))).to (by clear E1 E2;(try simp only [ct,aE,sM] at*);(simp [aE,sM, *];done))
  have T7:= @dU ae
  generalize g12:cg ae=Un at T7
  let E3:EL:=E2++ [tT,tT,tT,aw T7,tT,tF]
  cases Un
  ·exact (eg (d:= .bool false) (E3++(cr 16 49680))).to (by clear E1 E2 E3;(try simp only [ct,aE,sM] at*);(simp [aE,sM, *];done))
  have Uh:= @dU aa
  generalize g15:cg aa=UD at Uh
  let E4:EL:=E3++ [tT,tT,tT,aw Uh,tT,tF]
  cases UD
  ·exact (eg (d:= .bool false) (E4++(cr 11 1552))).to (by clear E1 E2 E3 E4;(try simp only [ct,aE,sM] at*);(simp [aE,sM, *];done))
  have Ui:= @bU af (-2147483648) 2147483647
  let E5:EL:=E4++ [tT,tT,tT,aw Ui,tT,tF]
  rcases cf (decide (af<(-2147483648))) with h17|h17
  ·exact (eg (d:= .bool false) (E5++Z7 4 (tC (eF (nt (ic (y:=decide (af≤2147483647)) (bQ (-2147483648) h17)))))++ [tC (nt (ic (y:=decide (af≤2147483647)) (bQ (-2147483648) h17))),tT])).to (by clear E1 E2 E3 E4 E5;(try simp only [ct,aE,sM] at*);(simp [aE,sM, *];omega))
  rcases cf (decide (af<2147483648)) with h18|h18
  ·have U6:= @bU aj (-2147483648) 2147483647
   let E6:EL:=E5++Z7 3 (tC (eF (nt (dt (bQ (-2147483648) h17) (eH 2147483647 h18)))))++ [aw U6,tC (eF (nt (dt (bQ (-2147483648) h17) (eH 2147483647 h18)))),tC (nt (dt (bQ (-2147483648) h17) (eH 2147483647 h18)))]
   rcases cf (decide (aj<(-2147483648))) with h20|h20
   ·exact (eg (d:= .bool false) (E6++ [tC (nt (ic (y:=decide (aj≤2147483647)) (bQ (-2147483648) h20)))])).to (by clear E1 E2 E3 E4 E5 E6;(try simp only [ct,aE,sM] at*);(simp [aE,sM, *];omega))
   rcases cf (decide (aj<2147483648)) with h21|h21
   ·let E7:EL:=E6++ [tC (nt (dt (bQ (-2147483648) h20) (eH 2147483647 h21)))]
    by_cases h22:w=32
    ·subst h22
     have Vb:= @rD cc
     generalize g25:kO cc=r24 at Vb
     exact (eg (d:= .bool r24) (E7++(cr 19 492040++ [aw Vb,tT]))).to (by clear E1 E2 E3 E4 E5 E6 E7;(try simp only [ct,aE,sM] at*);(rw [aai];simp [aE,sM, *];grind))
    let E8:EL:=E7++Z7 3 (tC (eF (bc h22)))++ [tC (bc h22)]++Z7 4 (tC (eF (bc h22)))
    by_cases h26:w=8
    ·subst h26
     have UR:= @bU aj (-128) 127
     exact (eg (d:= .bool false) (E8++([tT,tT,tT,aw UR]++cr 13 259))).to (by clear E1 E2 E3 E4 E5 E6 E7 E8;(try simp only [ct,aE,sM] at*);(simp [aE,sM, *];done))
    let E9:EL:=E8++Z7 3 (tC (eT (bc h26)))++ [tC (eF (bc h22)),tC (bc h26),tC (bc h22),tF,tF,tF,tF,tF,tT]
    by_cases h28:w=64
    ·subst h28
     have YP:= @rD cc
     generalize g31:kO cc=r30 at YP
     exact (eg (d:= .bool r30) (E9++ [tT,tT,tT,aw YP,tT])).to (by clear E1 E2 E3 E4 E5 E6 E7 E8 E9;(try simp only [ct,aE,sM] at*);(rw [aai];simp [aE,sM, *];grind))
    exact (eg (d:= .bool false) (E9++Z7 3 (tC (eT (bc h28)))++ [tC (bc h28)])).to (by clear E1 E2 E3 E4 E5 E6 E7 E8 E9;(try simp only [ct,aE,sM] at*);(simp [aE,sM, *];done))
   exact (eg (d:= .bool false) (E6++ [tC (nt (dt (bQ (-2147483648) h20) (eH 2147483647 h21)))])).to (by clear E1 E2 E3 E4 E5 E6;(try simp only [ct,aE,sM] at*);(simp [aE,sM, *];omega))
  exact (eg (d:= .bool false) (E5++Z7 4 (tC (eF (nt (dt (bQ (-2147483648) h17) (eH 2147483647 h18)))))++ [tC (nt (dt (bQ (-2147483648) h17) (eH 2147483647 h18))),tT])).to (by clear E1 E2 E3 E4 E5;(try simp only [ct,aE,sM] at*);(simp [aE,sM, *];omega))
 exact (eg (d:= .bool false) (E1++Z7 4 (tC (eF (nt h6)))++([tC (nt h6)]++cr 21 1589776))).to (by clear E1;(try simp only [ct,aE,sM] at*);(rw [aai];simp [aE,sM, *];grind))
theorem Hq:tN 7:=by
 intro op w ab ae aa af aj cc ho h Ue
 have c0:= @da op ho
 rw [eq_of_beq h] at c0
 generalize g2:ba op=r1 at c0
 generalize g4:bI op=r3 at c0
 have c5:= @IL op w ab ae aa af aj cc 7 (rfl:true=true)
 let E1:EL:=([aw c0]++Z7 4 (tC (eF (nt Ue)))++ [aw c5,tC (eF (nt Ue)),tC (eF (nt Ue)),.flat _ _ cW,tC (nt Ue)])
 rcases cf (bZ [ao 0,ao 0,ao 0,ao ae,ao 0,av 0,av aj,ao cc] [ao 0,ao 0,ao 0,ao 0,ao 0,av 0,av 0,ao 0]) with h6|h6
 ·have c7:= @dU ab
  generalize g9:cg ab=r8 at c7
  let E2:EL:=E1++Z7 3 (tC (eF (nt h6)))++ [aw c7,tC (eF (nt h6)),tC (nt h6)]
  cases r8
  ·exact (eg (d:= .bool false) (E2++(cr 21 1589776))).to (by clear E1 E2;(try simp only [ct,aE,sM] at*);(simp [aE,sM, *];done))
  have T7:= @dU ae
  generalize g12:cg ae=Un at T7
  let E3:EL:=E2++ [tT,tT,tT,aw T7,tT,tF]
  cases Un
  ·exact (eg (d:= .bool false) (E3++(cr 16 49680))).to (by clear E1 E2 E3;(try simp only [ct,aE,sM] at*);(simp [aE,sM, *];done))
  have Uh:= @dU aa
  generalize g15:cg aa=UD at Uh
  let E4:EL:=E3++ [tT,tT,tT,aw Uh,tT,tF]
  cases UD
  ·exact (eg (d:= .bool false) (E4++(cr 11 1552))).to (by clear E1 E2 E3 E4;(try simp only [ct,aE,sM] at*);(simp [aE,sM, *];done))
  have Ui:= @bU af (-2147483648) 2147483647
  let E5:EL:=E4++ [tT,tT,tT,aw Ui,tT,tF]
  rcases cf (decide (af<(-2147483648))) with h17|h17
  ·exact (eg (d:= .bool false) (E5++Z7 4 (tC (eF (nt (ic (y:=decide (af≤2147483647)) (bQ (-2147483648) h17)))))++ [tC (nt (ic (y:=decide (af≤2147483647)) (bQ (-2147483648) h17))),tT])).to (by clear E1 E2 E3 E4 E5;(try simp only [ct,aE,sM] at*);(simp [aE,sM, *];omega))
  rcases cf (decide (af<2147483648)) with h18|h18
  ·have U6:= @bU aj (-2147483648) 2147483647
   let E6:EL:=E5++Z7 3 (tC (eF (nt (dt (bQ (-2147483648) h17) (eH 2147483647 h18)))))++ [aw U6,tC (eF (nt (dt (bQ (-2147483648) h17) (eH 2147483647 h18)))),tC (nt (dt (bQ (-2147483648) h17) (eH 2147483647 h18)))]
   rcases cf (decide (aj<(-2147483648))) with h20|h20
   ·exact (eg (d:= .bool false) (E6++ [tC (nt (ic (y:=decide (aj≤2147483647)) (bQ (-2147483648) h20)))])).to (by clear E1 E2 E3 E4 E5 E6;(try simp only [ct,aE,sM] at*);(simp [aE,sM, *];omega))
   rcases cf (decide (aj<2147483648)) with h21|h21
   ·let E7:EL:=E6++ [tC (nt (dt (bQ (-2147483648) h20) (eH 2147483647 h21)))]
    by_cases h22:w=32
    ·subst h22
     have Vb:= @kX 32
     exact (eg (d:= .bool true) (E7++(cr 18 197128++ [aw Vb]))).to (by clear E1 E2 E3 E4 E5 E6 E7;(try simp only [ct,aE,sM] at*);(rw [aai];simp [aE,sM, *];grind))
    let E8:EL:=E7++Z7 3 (tC (eF (bc h22)))++ [tC (bc h22)]++Z7 4 (tC (eF (bc h22)))
    by_cases h24:w=8
    ·subst h24
     have Xx:= @bU aj (-128) 127
     have Vv:= @kX 8
     exact (eg (d:= .bool true) (E8++([tT,tT,tT,aw Xx]++cr 11 1539++ [aw Vv]))).to (by clear E1 E2 E3 E4 E5 E6 E7 E8;(try simp only [ct,aE,sM] at*);(rw [aai];simp [aE,sM, *];grind))
    have UR:= @kX w
    generalize g29:fS w=r28 at UR
    exact (eg (d:= .bool r28) (E8++Z7 3 (tC (eT (bc h24)))++([tC (eF (bc h22)),tC (bc h24),tC (bc h22)]++cr 8 192++ [aw UR]))).to (by clear E1 E2 E3 E4 E5 E6 E7 E8;(try simp only [ct,aE,sM] at*);(rw [aai];simp [aE,sM, *];grind))
   exact (eg (d:= .bool false) (E6++ [tC (nt (dt (bQ (-2147483648) h20) (eH 2147483647 h21)))])).to (by clear E1 E2 E3 E4 E5 E6;(try simp only [ct,aE,sM] at*);(simp [aE,sM, *];omega))
  exact (eg (d:= .bool false) (E5++Z7 4 (tC (eF (nt (dt (bQ (-2147483648) h17) (eH 2147483647 h18)))))++ [tC (nt (dt (bQ (-2147483648) h17) (eH 2147483647 h18))),tT])).to (by clear E1 E2 E3 E4 E5;(try simp only [ct,aE,sM] at*);(simp [aE,sM, *];omega))
 exact (eg (d:= .bool false) (E1++Z7 4 (tC (eF (nt h6)))++([tC (nt h6)]++cr 21 1589776))).to (by clear E1;(try simp only [ct,aE,sM] at*);(rw [aai];simp [aE,sM, *];grind))
theorem Hp:tN 8:=by
 intro op w ab ae aa af aj cc ho h Ue
 have c0:= @da op ho
 rw [eq_of_beq h] at c0
 generalize g2:ba op=r1 at c0
 generalize g4:bI op=r3 at c0
 have c5:= @IK op w ab ae aa af aj cc 8 (rfl:true=true)
 let E1:EL:=([aw c0]++Z7 4 (tC (eF (nt Ue)))++ [aw c5,tC (eF (nt Ue)),tC (eF (nt Ue)),.flat _ _ cW,tC (nt Ue)])
 rcases cf (bZ [ao 0,ao 0,ao ab,ao 0,ao 0,av 0,av aj,ao cc] [ao 0,ao 0,ao 0,ao 0,ao 0,av 0,av 0,ao 0]) with h6|h6
 ·have c7:= @dU ab
  generalize g9:cg ab=r8 at c7
  let E2:EL:=E1++Z7 3 (tC (eF (nt h6)))++ [aw c7,tC (eF (nt h6)),tC (nt h6)]
  cases r8
  ·exact (eg (d:= .bool false) (E2++(cr 21 1589776))).to (by clear E1 E2;(try simp only [ct,aE,sM] at*);(simp [aE,sM, *];done))
  have T7:= @dU ae
  generalize g12:cg ae=Un at T7
  let E3:EL:=E2++ [tT,tT,tT,aw T7,tT,tF]
  cases Un
  ·exact (eg (d:= .bool false) (E3++(cr 16 49680))).to (by clear E1 E2 E3;(try simp only [ct,aE,sM] at*);(simp [aE,sM, *];done))
  have Uh:= @dU aa
  generalize g15:cg aa=UD at Uh
  let E4:EL:=E3++ [tT,tT,tT,aw Uh,tT,tF]
  cases UD
  ·exact (eg (d:= .bool false) (E4++(cr 11 1552))).to (by clear E1 E2 E3 E4;(try simp only [ct,aE,sM] at*);(simp [aE,sM, *];done))
  have Ui:= @bU af (-2147483648) 2147483647
  let E5:EL:=E4++ [tT,tT,tT,aw Ui,tT,tF]
  rcases cf (decide (af<(-2147483648))) with h17|h17
  ·exact (eg (d:= .bool false) (E5++Z7 4 (tC (eF (nt (ic (y:=decide (af≤2147483647)) (bQ (-2147483648) h17)))))++ [tC (nt (ic (y:=decide (af≤2147483647)) (bQ (-2147483648) h17))),tT])).to (by clear E1 E2 E3 E4 E5;(try simp only [ct,aE,sM] at*);(simp [aE,sM, *];omega))
  rcases cf (decide (af<2147483648)) with h18|h18
  ·have U6:= @bU aj (-2147483648) 2147483647
   let E6:EL:=E5++Z7 3 (tC (eF (nt (dt (bQ (-2147483648) h17) (eH 2147483647 h18)))))++ [aw U6,tC (eF (nt (dt (bQ (-2147483648) h17) (eH 2147483647 h18)))),tC (nt (dt (bQ (-2147483648) h17) (eH 2147483647 h18)))]
   rcases cf (decide (aj<(-2147483648))) with h20|h20
   ·exact (eg (d:= .bool false) (E6++ [tC (nt (ic (y:=decide (aj≤2147483647)) (bQ (-2147483648) h20)))])).to (by clear E1 E2 E3 E4 E5 E6;(try simp only [ct,aE,sM] at*);(simp [aE,sM, *];omega))
   rcases cf (decide (aj<2147483648)) with h21|h21
   ·let E7:EL:=E6++ [tC (nt (dt (bQ (-2147483648) h20) (eH 2147483647 h21)))]
    by_cases h22:w=32
    ·subst h22
     have Vb:= @kX 32
     exact (eg (d:= .bool true) (E7++(cr 18 131592++ [aw Vb]))).to (by clear E1 E2 E3 E4 E5 E6 E7;(try simp only [ct,aE,sM] at*);(rw [aai];simp [aE,sM, *];grind))
    let E8:EL:=E7++Z7 3 (tC (eF (bc h22)))++ [tC (bc h22)]++Z7 4 (tC (eF (bc h22)))
    by_cases h24:w=8
    ·subst h24
     have Xx:= @bU aj (-128) 127
     have Vv:= @kX 8
     exact (eg (d:= .bool true) (E8++ [tT,tT,tT,aw Xx,tT,tT]++Z7 8 tF++ [tT,aw Vv])).to (by clear E1 E2 E3 E4 E5 E6 E7 E8;(try simp only [ct,aE,sM] at*);(rw [aai];simp [aE,sM, *];grind))
    have UR:= @kX w
    generalize g29:fS w=r28 at UR
    exact (eg (d:= .bool r28) (E8++Z7 3 (tC (eT (bc h24)))++([tC (eF (bc h22)),tC (bc h24),tC (bc h22)]++cr 8 128++ [aw UR]))).to (by clear E1 E2 E3 E4 E5 E6 E7 E8;(try simp only [ct,aE,sM] at*);(rw [aai];simp [aE,sM, *];grind))
   exact (eg (d:= .bool false) (E6++ [tC (nt (dt (bQ (-2147483648) h20) (eH 2147483647 h21)))])).to (by clear E1 E2 E3 E4 E5 E6;(try simp only [ct,aE,sM] at*);(simp [aE,sM, *];omega))
  exact (eg (d:= .bool false) (E5++Z7 4 (tC (eF (nt (dt (bQ (-2147483648) h17) (eH 2147483647 h18)))))++ [tC (nt (dt (bQ (-2147483648) h17) (eH 2147483647 h18))),tT])).to (by clear E1 E2 E3 E4 E5;(try simp only [ct,aE,sM] at*);(simp [aE,sM, *];omega))
 exact (eg (d:= .bool false) (E1++Z7 4 (tC (eF (nt h6)))++([tC (nt h6)]++cr 21 1589776))).to (by clear E1;(try simp only [ct,aE,sM] at*);(rw [aai];simp [aE,sM, *];grind))
end Go.Proofs.YtbfpahigdpigpaaGreat
