import Derived.Test.YtbfpahigdpigpaaGreatC05
import Derived.Test.YtbfpahigdpigpaaGreatC06
open List renaming replicate→Sx,length→SA,mem_cons→TJ
open BitVec renaming ofInt→Sy,toNat→SF
open Int renaming toNat→Sz,not_lt→SD
open Bool renaming and_eq_true→SG,eq_iff_iff→SM
open And renaming intro→S7
open List.cons renaming injEq→TR
open Go renaming IntKind→T8
/- Contracts and plain laws that a statement's proof leans on (texts merged:XD1,MdP3,XD1A,XOf,XOfA,XMay0). -/
set_option linter.unusedVariables false
set_option linter.unusedSimpArgs false
set_option maxRecDepth 100000
set_option maxHeartbeats 8000000
namespace Go.Proofs.YtbfpahigdpigpaaGreat
open Go Go.Ev
abbrev rB (s:av):Ob:= .box [.int .i8 s.w,.bool s.dZ,.int .u8 s.code,.int .i8 s.r,.int .i8 s.m,.int .i64 s.aa,.int .i64 s.ai,.int .i64 s.small,.int .i64 s.eQ,.int .i64 s.fB,.int .i8 s.high]
theorem I7 (s:av) (k:Int) (k0:0≤k) (k1:k≤31) (v0:0≤s.code) (v1:s.code≤255) (cd nm:Int) (z0 z1 z2 z3 z4 z5 z6 z8 z9:Ob):af Tryz.prog 143 ([.ptr false 7 0,.int .i8 (T8.i8.wrap k),.agg [.int .i8 1,.int .u8 cd,.int .i8 nm]]) ([z0,z1,z2,z3,z4,z5,z6,rB s,z8,z9]) (xD (T8.i8.wrap k) (av.w s) (av.m s) (av.r s) 0 0 0 0) ([z0,z1,z2,z3,z4,z5,z6,rB s,z8,z9,.dead,.dead,.dead]):=by
 exact (af.ab (aD:= [0,1,2,3,4,5,6,7,8,9]) (d:=(xD (T8.i8.wrap k) (av.w s) (av.m s) (av.r s) 0 0 0 0)) (s':= [z0,z1,z2,z3,z4,z5,z6,rB s,z8,z9,.dead,.dead,.dead]) mixed [tT] (by kernel_rfl)).cast (by first|(rfl;done)|(exfalso;(try simp only [decide_eq_true_eq,decide_eq_false_iff_not,beq_iff_eq,beq_eq_false_iff_ne,bne_iff_ne,ne_eq] at*);first|omega|contradiction)) (by rfl)
theorem I6 (s:av) (k:Int) (k0:0≤k) (k1:k≤31) (v0:0≤s.code) (v1:s.code≤255) (cd nm:Int) (z0 z1 z2 z3 z4 z5 z6 z8 z9:Ob):af Tryz.prog 143 ([.ptr false 7 0,.int .i8 (T8.i8.wrap k),.agg [.int .i8 2,.int .u8 cd,.int .i8 nm]]) ([z0,z1,z2,z3,z4,z5,z6,rB s,z8,z9]) (xD (T8.i8.wrap k) (av.w s) (av.r s) (av.m s) 0 0 0 0) ([z0,z1,z2,z3,z4,z5,z6,rB s,z8,z9,.dead,.dead,.dead]):=by
 exact (af.ab (aD:= [0,1,2,3,4,5,6,7,8,9]) (d:=(xD (T8.i8.wrap k) (av.w s) (av.r s) (av.m s) 0 0 0 0)) (s':= [z0,z1,z2,z3,z4,z5,z6,rB s,z8,z9,.dead,.dead,.dead]) mixed [tF,tT] (by kernel_rfl)).cast (by first|(rfl;done)|(exfalso;(try simp only [decide_eq_true_eq,decide_eq_false_iff_not,beq_iff_eq,beq_eq_false_iff_ne,bne_iff_ne,ne_eq] at*);first|omega|contradiction)) (by rfl)
theorem Ho (s:av) (k:Int) (k0:0≤k) (k1:k≤31) (v0:0≤s.code) (v1:s.code≤255) (cd nm:Int) (z0 z1 z2 z3 z4 z5 z6 z8 z9:Ob) (hk:¬k=1):af Tryz.prog 143 ([.ptr false 7 0,.int .i8 (T8.i8.wrap k),.agg [.int .i8 3,.int .u8 cd,.int .i8 nm]]) ([z0,z1,z2,z3,z4,z5,z6,rB s,z8,z9]) (xD (T8.i8.wrap k) (av.w s) (av.m s) 0 0 0 (av.ai s) 0) ([z0,z1,z2,z3,z4,z5,z6,rB s,z8,z9,.dead,.dead,.dead]):=by
 exact (af.ab (aD:= [0,1,2,3,4,5,6,7,8,9]) (d:=(xD (T8.i8.wrap k) (av.w s) (av.m s) 0 0 0 (av.ai s) 0)) (s':= [z0,z1,z2,z3,z4,z5,z6,rB s,z8,z9,.dead,.dead,.dead]) mixed ([tF,tF,tF,tT,tC (eT (by (simp only [dX] at*;omega):(T8.i8.wrap k==1)=false)),tC (eT (by (simp only [dX] at*;omega):(T8.i8.wrap k==1)=false)),tC (eT (by (simp only [dX] at*;omega):(T8.i8.wrap k==1)=false)),tC (eT (by (simp only [dX] at*;omega):(T8.i8.wrap k==1)=false)),tC (eT (by (simp only [dX] at*;omega):(T8.i8.wrap k==1)=false)),tC (by (simp only [dX] at*;omega):(T8.i8.wrap k==1)=false),tF,tF,tF,tF,tF,tF]++ [tF]) (by kernel_rfl)).cast (by first|(rfl;done)|(exfalso;(try simp only [decide_eq_true_eq,decide_eq_false_iff_not,beq_iff_eq,beq_eq_false_iff_ne,bne_iff_ne,ne_eq] at*);first|omega|contradiction)) (by rfl)
theorem Hq (s:av) (k:Int) (k0:0≤k) (k1:k≤31) (v0:0≤s.code) (v1:s.code≤255) (cd nm:Int) (z0 z1 z2 z3 z4 z5 z6 z8 z9:Ob) (hk:k=1) (hc:s.code<184):af Tryz.prog 143 ([.ptr false 7 0,.int .i8 (T8.i8.wrap k),.agg [.int .i8 3,.int .u8 cd,.int .i8 nm]]) ([z0,z1,z2,z3,z4,z5,z6,rB s,z8,z9]) (xD (T8.i8.wrap k) (av.w s) (av.m s) 0 0 0 (av.ai s) 0) ([z0,z1,z2,z3,z4,z5,z6,rB s,z8,z9,.dead,.dead,.dead]):=by
 exact (af.ab (aD:= [0,1,2,3,4,5,6,7,8,9]) (d:=(xD (T8.i8.wrap k) (av.w s) (av.m s) 0 0 0 (av.ai s) 0)) (s':= [z0,z1,z2,z3,z4,z5,z6,rB s,z8,z9,.dead,.dead,.dead]) mixed ([tF,tF,tF,tT,tC (eT (dx 1 true (by (simp only [dX] at*;omega):T8.i8.wrap k=1))),tC (eT (dx 1 true (by (simp only [dX] at*;omega):T8.i8.wrap k=1))),tC (eT (dx 1 true (by (simp only [dX] at*;omega):T8.i8.wrap k=1))),tC (eT (dx 1 true (by (simp only [dX] at*;omega):T8.i8.wrap k=1))),tC (eT (dx 1 true (by (simp only [dX] at*;omega):T8.i8.wrap k=1))),tC (dx 1 true (by (simp only [dX] at*;omega):T8.i8.wrap k=1)),tC (eT (bB 184 (decide_eq_true hc))),tC (eT (bB 184 (decide_eq_true hc))),tC (eT (bB 184 (decide_eq_true hc))),tC (eT (bB 184 (decide_eq_true hc))),tC (eT (bB 184 (decide_eq_true hc))),tC (bB 184 (decide_eq_true hc))]++ [tF]) (by kernel_rfl)).cast (by first|(rfl;done)|(exfalso;(try simp only [decide_eq_true_eq,decide_eq_false_iff_not,beq_iff_eq,beq_eq_false_iff_ne,bne_iff_ne,ne_eq] at*);first|omega|contradiction)) (by rfl)
theorem Hr (s:av) (k:Int) (k0:0≤k) (k1:k≤31) (v0:0≤s.code) (v1:s.code≤255) (cd nm:Int) (z0 z1 z2 z3 z4 z5 z6 z8 z9:Ob) (hk:k=1) (hc:192≤s.code):af Tryz.prog 143 ([.ptr false 7 0,.int .i8 (T8.i8.wrap k),.agg [.int .i8 3,.int .u8 cd,.int .i8 nm]]) ([z0,z1,z2,z3,z4,z5,z6,rB s,z8,z9]) (xD (T8.i8.wrap k) (av.w s) (av.m s) 0 0 0 (av.ai s) 0) ([z0,z1,z2,z3,z4,z5,z6,rB s,z8,z9,.dead,.dead,.dead]):=by
 exact (af.ab (aD:= [0,1,2,3,4,5,6,7,8,9]) (d:=(xD (T8.i8.wrap k) (av.w s) (av.m s) 0 0 0 (av.ai s) 0)) (s':= [z0,z1,z2,z3,z4,z5,z6,rB s,z8,z9,.dead,.dead,.dead]) mixed ([tF,tF,tF,tT,tC (eT (dx 1 true (by (simp only [dX] at*;omega):T8.i8.wrap k=1))),tC (eT (dx 1 true (by (simp only [dX] at*;omega):T8.i8.wrap k=1))),tC (eT (dx 1 true (by (simp only [dX] at*;omega):T8.i8.wrap k=1))),tC (eT (dx 1 true (by (simp only [dX] at*;omega):T8.i8.wrap k=1))),tC (eT (dx 1 true (by (simp only [dX] at*;omega):T8.i8.wrap k=1))),tC (dx 1 true (by (simp only [dX] at*;omega):T8.i8.wrap k=1)),tC (eT (bB 184 (lb 184 (decide_eq_false (SD.2 hc))))),tC (eT (bB 184 (lb 184 (decide_eq_false (SD.2 hc))))),tC (eT (bB 184 (lb 184 (decide_eq_false (SD.2 hc))))),tC (eT (bB 184 (lb 184 (decide_eq_false (SD.2 hc))))),tC (eT (bB 184 (lb 184 (decide_eq_false (SD.2 hc))))),tC (bB 184 (lb 184 (decide_eq_false (SD.2 hc))))]++ [tC (decide_eq_false (SD.2 hc))]) (by kernel_rfl)).cast (by first|(rfl;done)|(exfalso;(try simp only [decide_eq_true_eq,decide_eq_false_iff_not,beq_iff_eq,beq_eq_false_iff_ne,bne_iff_ne,ne_eq] at*);first|omega|contradiction)) (by rfl)
theorem Hp (s:av) (k:Int) (k0:0≤k) (k1:k≤31) (v0:0≤s.code) (v1:s.code≤255) (cd nm:Int) (z0 z1 z2 z3 z4 z5 z6 z8 z9:Ob) (hk:k=1) (hc:184≤s.code) (hd:s.code<192) (hh:s.high=0∨s.high=8):af Tryz.prog 143 ([.ptr false 7 0,.int .i8 (T8.i8.wrap k),.agg [.int .i8 3,.int .u8 cd,.int .i8 nm]]) ([z0,z1,z2,z3,z4,z5,z6,rB s,z8,z9]) (xD (T8.i8.wrap k) (av.w s) (s.code%8+s.high) 0 0 0 (av.eQ s) 0) ([z0,z1,z2,z3,z4,z5,z6,rB s,z8,z9,.dead,.dead,.dead]):=by
 exact (af.ab (aD:= [0,1,2,3,4,5,6,7,8,9]) (d:=(xD (T8.i8.wrap k) (av.w s) (T8.i8.wrap (↑(SF (Sy 8 (T8.i8.wrap (T8.u8.wrap (↑(SF (Sy 8 (av.code s)&&&Sy 8 7)):Int)))|||Sy 8 (av.high s))):Int)) 0 0 0 (av.eQ s) 0)) (s':= [z0,z1,z2,z3,z4,z5,z6,rB s,z8,z9,.dead,.dead,.dead]) mixed ([tF,tF,tF,tT,tC (eT (dx 1 true (by (simp only [dX] at*;omega):T8.i8.wrap k=1))),tC (eT (dx 1 true (by (simp only [dX] at*;omega):T8.i8.wrap k=1))),tC (eT (dx 1 true (by (simp only [dX] at*;omega):T8.i8.wrap k=1))),tC (eT (dx 1 true (by (simp only [dX] at*;omega):T8.i8.wrap k=1))),tC (eT (dx 1 true (by (simp only [dX] at*;omega):T8.i8.wrap k=1))),tC (dx 1 true (by (simp only [dX] at*;omega):T8.i8.wrap k=1)),tC (eT (bB 184 (decide_eq_false (SD.2 hc)))),tC (eT (bB 184 (decide_eq_false (SD.2 hc)))),tC (eT (bB 184 (decide_eq_false (SD.2 hc)))),tC (eT (bB 184 (decide_eq_false (SD.2 hc)))),tC (eT (bB 184 (decide_eq_false (SD.2 hc)))),tC (bB 184 (decide_eq_false (SD.2 hc)))]++ [tC (decide_eq_true hd)]) (by kernel_rfl)).cast (by first|(simp only [xD,D.agg.injEq,TR,D.int.injEq,true_and,and_true];exact IA v0 v1 hh;done)|(exfalso;(try simp only [decide_eq_true_eq,decide_eq_false_iff_not,beq_iff_eq,beq_eq_false_iff_ne,bne_iff_ne,ne_eq] at*);first|omega|contradiction)) (by rfl)
theorem I5 (s:av) (k:Int) (k0:0≤k) (k1:k≤31) (v0:0≤s.code) (v1:s.code≤255) (cd nm:Int) (z0 z1 z2 z3 z4 z5 z6 z8 z9:Ob):af Tryz.prog 143 ([.ptr false 7 0,.int .i8 (T8.i8.wrap k),.agg [.int .i8 4,.int .u8 cd,.int .i8 nm]]) ([z0,z1,z2,z3,z4,z5,z6,rB s,z8,z9]) (xD (T8.i8.wrap k) (av.w s) (av.m s) 0 0 0 (av.small s) 0) ([z0,z1,z2,z3,z4,z5,z6,rB s,z8,z9,.dead,.dead,.dead]):=by
 exact (af.ab (aD:= [0,1,2,3,4,5,6,7,8,9]) (d:=(xD (T8.i8.wrap k) (av.w s) (av.m s) 0 0 0 (av.small s) 0)) (s':= [z0,z1,z2,z3,z4,z5,z6,rB s,z8,z9,.dead,.dead,.dead]) mixed [tF,tF,tF,tF,tT] (by kernel_rfl)).cast (by first|(rfl;done)|(exfalso;(try simp only [decide_eq_true_eq,decide_eq_false_iff_not,beq_iff_eq,beq_eq_false_iff_ne,bne_iff_ne,ne_eq] at*);first|omega|contradiction)) (by rfl)
theorem I4 (s:av) (k:Int) (k0:0≤k) (k1:k≤31) (v0:0≤s.code) (v1:s.code≤255) (cd nm:Int) (z0 z1 z2 z3 z4 z5 z6 z8 z9:Ob):af Tryz.prog 143 ([.ptr false 7 0,.int .i8 (T8.i8.wrap k),.agg [.int .i8 5,.int .u8 cd,.int .i8 nm]]) ([z0,z1,z2,z3,z4,z5,z6,rB s,z8,z9]) (xD (T8.i8.wrap k) (av.w s) (av.m s) 0 0 0 0 0) ([z0,z1,z2,z3,z4,z5,z6,rB s,z8,z9,.dead,.dead,.dead]):=by
 exact (af.ab (aD:= [0,1,2,3,4,5,6,7,8,9]) (d:=(xD (T8.i8.wrap k) (av.w s) (av.m s) 0 0 0 0 0)) (s':= [z0,z1,z2,z3,z4,z5,z6,rB s,z8,z9,.dead,.dead,.dead]) mixed [tF,tF,tF,tF,tF,tT] (by kernel_rfl)).cast (by first|(rfl;done)|(exfalso;(try simp only [decide_eq_true_eq,decide_eq_false_iff_not,beq_iff_eq,beq_eq_false_iff_ne,bne_iff_ne,ne_eq] at*);first|omega|contradiction)) (by rfl)
theorem I3 (s:av) (k:Int) (k0:0≤k) (k1:k≤31) (v0:0≤s.code) (v1:s.code≤255) (cd nm:Int) (z0 z1 z2 z3 z4 z5 z6 z8 z9:Ob):af Tryz.prog 143 ([.ptr false 7 0,.int .i8 (T8.i8.wrap k),.agg [.int .i8 6,.int .u8 cd,.int .i8 nm]]) ([z0,z1,z2,z3,z4,z5,z6,rB s,z8,z9]) (xD (T8.i8.wrap k) (av.w s) (av.r s) (av.m s) 0 0 0 (dH (s.code - cd))) ([z0,z1,z2,z3,z4,z5,z6,rB s,z8,z9,.dead,.dead,.dead]):=by
 exact (af.ab (aD:= [0,1,2,3,4,5,6,7,8,9]) (d:=(xD (T8.i8.wrap k) (av.w s) (av.r s) (av.m s) 0 0 0 (T8.i8.wrap (T8.u8.wrap (av.code s - cd))))) (s':= [z0,z1,z2,z3,z4,z5,z6,rB s,z8,z9,.dead,.dead,.dead]) mixed [tF,tF,tT] (by kernel_rfl)).cast (by first|(simp only [xD,D.agg.injEq,TR,D.int.injEq,true_and,and_true];rw [kK,dD,dH];omega;done)|(exfalso;(try simp only [decide_eq_true_eq,decide_eq_false_iff_not,beq_iff_eq,beq_eq_false_iff_ne,bne_iff_ne,ne_eq] at*);first|omega|contradiction)) (by rfl)
theorem Hm (s:av) (k:Int) (k0:0≤k) (k1:k≤31) (v0:0≤s.code) (v1:s.code≤255) (cd nm:Int) (z0 z1 z2 z3 z4 z5 z6 z8 z9:Ob) (hl:s.dZ=true):af Tryz.prog 143 ([.ptr false 7 0,.int .i8 (T8.i8.wrap k),.agg [.int .i8 7,.int .u8 cd,.int .i8 nm]]) ([z0,z1,z2,z3,z4,z5,z6,.box [.int .i8 (av.w s),.bool (av.dZ s),.int .u8 (av.code s),.int .i8 (av.r s),.int .i8 (av.m s),.int .i64 (av.aa s),.int .i64 (av.ai s),.int .i64 (av.small s),.int .i64 (av.eQ s),.int .i64 (av.fB s),.int .i8 (av.high s)],z8,z9]) (xD (T8.i8.wrap k) (if s.code%2=1 then 16 else 8) (av.r s) 0 (av.m s) (av.aa s) 0 0) ([z0,z1,z2,z3,z4,z5,z6,.box [.int .i8 (av.w s),.bool (av.dZ s),.int .u8 (av.code s),.int .i8 (av.r s),.int .i8 (av.m s),.int .i64 (av.aa s),.int .i64 (av.ai s),.int .i64 (av.small s),.int .i64 (av.eQ s),.int .i64 (av.fB s),.int .i8 (av.high s)],z8,z9,.dead,.dead,.dead]):=by
 exact (af.ab (aD:= [0,1,2,3,4,5,6,7,8,9]) (d:=(xD (T8.i8.wrap k) (T8.i8.wrap (8*2^min (Sz (T8.u8.wrap (↑(SF (Sy 8 (av.code s)&&&Sy 8 1)):Int))) 8)) (av.r s) 0 (av.m s) (av.aa s) 0 0)) (s':= [z0,z1,z2,z3,z4,z5,z6,rB s,z8,z9,.dead,.dead,.dead]) mixed [tF,tF,tF,tF,tF,tF,tT,tC hl,tT] (by kernel_rfl)).cast (by first|(simp only [xD,D.agg.injEq,TR,D.int.injEq,true_and,and_true];exact Gh v0 v1;done)|(exfalso;(try simp only [decide_eq_true_eq,decide_eq_false_iff_not,beq_iff_eq,beq_eq_false_iff_ne,bne_iff_ne,ne_eq] at*);first|omega|contradiction)) (by rfl)
theorem Hn (s:av) (k:Int) (k0:0≤k) (k1:k≤31) (v0:0≤s.code) (v1:s.code≤255) (cd nm:Int) (z0 z1 z2 z3 z4 z5 z6 z8 z9:Ob) (hl:s.dZ=false):af Tryz.prog 143 ([.ptr false 7 0,.int .i8 (T8.i8.wrap k),.agg [.int .i8 7,.int .u8 cd,.int .i8 nm]]) ([z0,z1,z2,z3,z4,z5,z6,.box [.int .i8 (av.w s),.bool (av.dZ s),.int .u8 (av.code s),.int .i8 (av.r s),.int .i8 (av.m s),.int .i64 (av.aa s),.int .i64 (av.ai s),.int .i64 (av.small s),.int .i64 (av.eQ s),.int .i64 (av.fB s),.int .i8 (av.high s)],z8,z9]) (xD (T8.i8.wrap k) (av.w s) (av.r s) 0 (av.m s) (av.aa s) 0 0) ([z0,z1,z2,z3,z4,z5,z6,.box [.int .i8 (av.w s),.bool (av.dZ s),.int .u8 (av.code s),.int .i8 (av.r s),.int .i8 (av.m s),.int .i64 (av.aa s),.int .i64 (av.ai s),.int .i64 (av.small s),.int .i64 (av.eQ s),.int .i64 (av.fB s),.int .i8 (av.high s)],z8,z9,.dead,.dead,.dead]):=by
 exact (af.ab (aD:= [0,1,2,3,4,5,6,7,8,9]) (d:=(xD (T8.i8.wrap k) (av.w s) (av.r s) 0 (av.m s) (av.aa s) 0 0)) (s':= [z0,z1,z2,z3,z4,z5,z6,rB s,z8,z9,.dead,.dead,.dead]) mixed [tF,tF,tF,tF,tF,tF,tT,tC hl] (by kernel_rfl)).cast (by first|(rfl;done)|(exfalso;(try simp only [decide_eq_true_eq,decide_eq_false_iff_not,beq_iff_eq,beq_eq_false_iff_ne,bne_iff_ne,ne_eq] at*);first|omega|contradiction)) (by rfl)
theorem Hk (s:av) (k:Int) (k0:0≤k) (k1:k≤31) (v0:0≤s.code) (v1:s.code≤255) (cd nm:Int) (z0 z1 z2 z3 z4 z5 z6 z8 z9:Ob) (hc:s.code=136):af Tryz.prog 143 ([.ptr false 7 0,.int .i8 (T8.i8.wrap k),.agg [.int .i8 8,.int .u8 cd,.int .i8 nm]]) ([z0,z1,z2,z3,z4,z5,z6,rB s,z8,z9]) (xD (T8.i8.wrap k) 8 0 (av.r s) (av.m s) (av.aa s) 0 0) ([z0,z1,z2,z3,z4,z5,z6,rB s,z8,z9,.dead,.dead,.dead]):=by
 by_cases h0:av.code s=136
 ·exact (af.ab (aD:= [0,1,2,3,4,5,6,7,8,9]) (d:=(xD (T8.i8.wrap k) 8 0 (av.r s) (av.m s) (av.aa s) 0 0)) (s':= [z0,z1,z2,z3,z4,z5,z6,rB s,z8,z9,.dead,.dead,.dead]) mixed [tF,tF,tF,tF,tF,tF,tF,tT,tC (dx 136 true h0)] (by kernel_rfl)).cast (by first|(rfl;done)|(exfalso;(try simp only [decide_eq_true_eq,decide_eq_false_iff_not,beq_iff_eq,beq_eq_false_iff_ne,bne_iff_ne,ne_eq] at*);first|omega|contradiction)) (by rfl)
 exact (af.ab (aD:= [0,1,2,3,4,5,6,7,8,9]) (d:=(xD (T8.i8.wrap k) (av.w s) 0 (av.r s) (av.m s) (av.aa s) 0 0)) (s':= [z0,z1,z2,z3,z4,z5,z6,rB s,z8,z9,.dead,.dead,.dead]) mixed [tF,tF,tF,tF,tF,tF,tF,tT,tC (aw h0)] (by kernel_rfl)).cast (by first|(rfl;done)|(exfalso;(try simp only [decide_eq_true_eq,decide_eq_false_iff_not,beq_iff_eq,beq_eq_false_iff_ne,bne_iff_ne,ne_eq] at*);first|omega|contradiction)) (by rfl)
theorem Hl (s:av) (k:Int) (k0:0≤k) (k1:k≤31) (v0:0≤s.code) (v1:s.code≤255) (cd nm:Int) (z0 z1 z2 z3 z4 z5 z6 z8 z9:Ob) (hc:¬s.code=136):af Tryz.prog 143 ([.ptr false 7 0,.int .i8 (T8.i8.wrap k),.agg [.int .i8 8,.int .u8 cd,.int .i8 nm]]) ([z0,z1,z2,z3,z4,z5,z6,rB s,z8,z9]) (xD (T8.i8.wrap k) (av.w s) 0 (av.r s) (av.m s) (av.aa s) 0 0) ([z0,z1,z2,z3,z4,z5,z6,rB s,z8,z9,.dead,.dead,.dead]):=by
 exact (af.ab (aD:= [0,1,2,3,4,5,6,7,8,9]) (d:=(xD (T8.i8.wrap k) (av.w s) 0 (av.r s) (av.m s) (av.aa s) 0 0)) (s':= [z0,z1,z2,z3,z4,z5,z6,rB s,z8,z9,.dead,.dead,.dead]) mixed [tF,tF,tF,tF,tF,tF,tF,tT,tC (by (simp only [dX] at*;omega):(av.code s==136)=false)] (by kernel_rfl)).cast (by first|(rfl;done)|(exfalso;(try simp only [decide_eq_true_eq,decide_eq_false_iff_not,beq_iff_eq,beq_eq_false_iff_ne,bne_iff_ne,ne_eq] at*);first|omega|contradiction)) (by rfl)
theorem Hj (s:av) (k:Int) (k0:0≤k) (k1:k≤31) (v0:0≤s.code) (v1:s.code≤255) (cd nm:Int) (z0 z1 z2 z3 z4 z5 z6 z8 z9:Ob) (hl:s.dZ=true):af Tryz.prog 143 ([.ptr false 7 0,.int .i8 (T8.i8.wrap k),.agg [.int .i8 9,.int .u8 cd,.int .i8 nm]]) ([z0,z1,z2,z3,z4,z5,z6,.box [.int .i8 (av.w s),.bool (av.dZ s),.int .u8 (av.code s),.int .i8 (av.r s),.int .i8 (av.m s),.int .i64 (av.aa s),.int .i64 (av.ai s),.int .i64 (av.small s),.int .i64 (av.eQ s),.int .i64 (av.fB s),.int .i8 (av.high s)],z8,z9]) (xD (T8.i8.wrap k) 32 0 0 0 0 (av.eQ s) 0) ([z0,z1,z2,z3,z4,z5,z6,.box [.int .i8 (av.w s),.bool (av.dZ s),.int .u8 (av.code s),.int .i8 (av.r s),.int .i8 (av.m s),.int .i64 (av.aa s),.int .i64 (av.ai s),.int .i64 (av.small s),.int .i64 (av.eQ s),.int .i64 (av.fB s),.int .i8 (av.high s)],z8,z9,.dead,.dead,.dead]):=by
 exact (af.ab (aD:= [0,1,2,3,4,5,6,7,8,9]) (d:=(xD (T8.i8.wrap k) 32 0 0 0 0 (av.eQ s) 0)) (s':= [z0,z1,z2,z3,z4,z5,z6,rB s,z8,z9,.dead,.dead,.dead]) mixed ([tF,tF,tF,tF,tF,tF,tF,tF,tT,tT,tF,tC (eT (nt hl)),tC (eT (nt hl)),tC (eT (nt hl)),tC (eT (nt hl)),tC (eT (nt hl))]++ [tC (nt hl),tF]) (by kernel_rfl)).cast (by first|(rfl;done)|(exfalso;(try simp only [decide_eq_true_eq,decide_eq_false_iff_not,beq_iff_eq,beq_eq_false_iff_ne,bne_iff_ne,ne_eq] at*);first|omega|contradiction)) (by rfl)
theorem Hi (s:av) (k:Int) (k0:0≤k) (k1:k≤31) (v0:0≤s.code) (v1:s.code≤255) (cd nm:Int) (z0 z1 z2 z3 z4 z5 z6 z8 z9:Ob) (hl:s.dZ=false) (hc:s.code=233):af Tryz.prog 143 ([.ptr false 7 0,.int .i8 (T8.i8.wrap k),.agg [.int .i8 9,.int .u8 cd,.int .i8 nm]]) ([z0,z1,z2,z3,z4,z5,z6,.box [.int .i8 (av.w s),.bool (av.dZ s),.int .u8 (av.code s),.int .i8 (av.r s),.int .i8 (av.m s),.int .i64 (av.aa s),.int .i64 (av.ai s),.int .i64 (av.small s),.int .i64 (av.eQ s),.int .i64 (av.fB s),.int .i8 (av.high s)],z8,z9]) (xD (T8.i8.wrap k) 32 0 0 0 0 (av.eQ s) 0) ([z0,z1,z2,z3,z4,z5,z6,.box [.int .i8 (av.w s),.bool (av.dZ s),.int .u8 (av.code s),.int .i8 (av.r s),.int .i8 (av.m s),.int .i64 (av.aa s),.int .i64 (av.ai s),.int .i64 (av.small s),.int .i64 (av.eQ s),.int .i64 (av.fB s),.int .i8 (av.high s)],z8,z9,.dead,.dead,.dead]):=by
 by_cases h0:av.code s=233
 ·exact (af.ab (aD:= [0,1,2,3,4,5,6,7,8,9]) (d:=(xD (T8.i8.wrap k) 32 0 0 0 0 (av.eQ s) 0)) (s':= [z0,z1,z2,z3,z4,z5,z6,rB s,z8,z9,.dead,.dead,.dead]) mixed ([tF,tF,tF,tF,tF,tF,tF,tF,tT,tT,tF,tC (eT (nt hl)),tC (eT (nt hl)),tC (eT (nt hl)),tC (eT (nt hl)),tC (eT (nt hl))]++ [tC (nt hl),tC (nt (dx 233 true h0))]) (by kernel_rfl)).cast (by first|(rfl;done)|(exfalso;(try simp only [decide_eq_true_eq,decide_eq_false_iff_not,beq_iff_eq,beq_eq_false_iff_ne,bne_iff_ne,ne_eq] at*);first|omega|contradiction)) (by rfl)
 exact (af.ab (aD:= [0,1,2,3,4,5,6,7,8,9]) (d:=(xD (T8.i8.wrap k) 8 0 0 0 0 (av.fB s) 0)) (s':= [z0,z1,z2,z3,z4,z5,z6,rB s,z8,z9,.dead,.dead,.dead]) mixed ([tF,tF,tF,tF,tF,tF,tF,tF,tT,tT,tF,tC (eT (nt hl)),tC (eT (nt hl)),tC (eT (nt hl)),tC (eT (nt hl)),tC (eT (nt hl))]++ [tC (nt hl),tC (nt (aw h0))]) (by kernel_rfl)).cast (by first|(rfl;done)|(exfalso;(try simp only [decide_eq_true_eq,decide_eq_false_iff_not,beq_iff_eq,beq_eq_false_iff_ne,bne_iff_ne,ne_eq] at*);first|omega|contradiction)) (by rfl)
theorem Hh (s:av) (k:Int) (k0:0≤k) (k1:k≤31) (v0:0≤s.code) (v1:s.code≤255) (cd nm:Int) (z0 z1 z2 z3 z4 z5 z6 z8 z9:Ob) (hl:s.dZ=false) (hc:¬s.code=233):af Tryz.prog 143 ([.ptr false 7 0,.int .i8 (T8.i8.wrap k),.agg [.int .i8 9,.int .u8 cd,.int .i8 nm]]) ([z0,z1,z2,z3,z4,z5,z6,.box [.int .i8 (av.w s),.bool (av.dZ s),.int .u8 (av.code s),.int .i8 (av.r s),.int .i8 (av.m s),.int .i64 (av.aa s),.int .i64 (av.ai s),.int .i64 (av.small s),.int .i64 (av.eQ s),.int .i64 (av.fB s),.int .i8 (av.high s)],z8,z9]) (xD (T8.i8.wrap k) 8 0 0 0 0 (av.fB s) 0) ([z0,z1,z2,z3,z4,z5,z6,.box [.int .i8 (av.w s),.bool (av.dZ s),.int .u8 (av.code s),.int .i8 (av.r s),.int .i8 (av.m s),.int .i64 (av.aa s),.int .i64 (av.ai s),.int .i64 (av.small s),.int .i64 (av.eQ s),.int .i64 (av.fB s),.int .i8 (av.high s)],z8,z9,.dead,.dead,.dead]):=by
 exact (af.ab (aD:= [0,1,2,3,4,5,6,7,8,9]) (d:=(xD (T8.i8.wrap k) 8 0 0 0 0 (av.fB s) 0)) (s':= [z0,z1,z2,z3,z4,z5,z6,rB s,z8,z9,.dead,.dead,.dead]) mixed ([tF,tF,tF,tF,tF,tF,tF,tF,tT,tT,tF,tC (eT (nt hl)),tC (eT (nt hl)),tC (eT (nt hl)),tC (eT (nt hl)),tC (eT (nt hl))]++ [tC (nt hl),tC (nt (by (simp only [dX] at*;omega):(av.code s==233)=false))]) (by kernel_rfl)).cast (by first|(rfl;done)|(exfalso;(try simp only [decide_eq_true_eq,decide_eq_false_iff_not,beq_iff_eq,beq_eq_false_iff_ne,bne_iff_ne,ne_eq] at*);first|omega|contradiction)) (by rfl)
theorem FR (s:av) (k:Int) (k0:0≤k) (k1:k≤31) (v0:0≤s.code) (v1:s.code≤255) (cd nm:Int) (z0 z1 z2 z3 z4 z5 z6 z8 z9:Ob) (hl:s.dZ=true):af Tryz.prog 143 ([.ptr false 7 0,.int .i8 (T8.i8.wrap k),.agg [.int .i8 10,.int .u8 cd,.int .i8 nm]]) ([z0,z1,z2,z3,z4,z5,z6,.box [.int .i8 (av.w s),.bool (av.dZ s),.int .u8 (av.code s),.int .i8 (av.r s),.int .i8 (av.m s),.int .i64 (av.aa s),.int .i64 (av.ai s),.int .i64 (av.small s),.int .i64 (av.eQ s),.int .i64 (av.fB s),.int .i8 (av.high s)],z8,z9]) (xD (T8.i8.wrap k) 32 0 0 0 0 (av.eQ s) (s.code%16)) ([z0,z1,z2,z3,z4,z5,z6,.box [.int .i8 (av.w s),.bool (av.dZ s),.int .u8 (av.code s),.int .i8 (av.r s),.int .i8 (av.m s),.int .i64 (av.aa s),.int .i64 (av.ai s),.int .i64 (av.small s),.int .i64 (av.eQ s),.int .i64 (av.fB s),.int .i8 (av.high s)],z8,z9,.dead,.dead,.dead]):=by
 exact (af.ab (aD:= [0,1,2,3,4,5,6,7,8,9]) (d:=(xD (T8.i8.wrap k) 32 0 0 0 0 (av.eQ s) (T8.i8.wrap (T8.u8.wrap (↑(SF (Sy 8 (av.code s)&&&Sy 8 15)):Int))))) (s':= [z0,z1,z2,z3,z4,z5,z6,rB s,z8,z9,.dead,.dead,.dead]) mixed ([tF,tF,tF,tF,tF,tF,tF,tF,tF,tT,tT,tC (eT (nt hl)),tC (eT (nt hl)),tC (eT (nt hl)),tC (eT (nt hl)),tC (eT (nt hl))]++ [tC (nt hl),tF]) (by kernel_rfl)).cast (by first|(simp only [xD,D.agg.injEq,TR,D.int.injEq,true_and,and_true];exact AJ v0 v1;done)|(exfalso;(try simp only [decide_eq_true_eq,decide_eq_false_iff_not,beq_iff_eq,beq_eq_false_iff_ne,bne_iff_ne,ne_eq] at*);first|omega|contradiction)) (by rfl)
theorem FQ (s:av) (k:Int) (k0:0≤k) (k1:k≤31) (v0:0≤s.code) (v1:s.code≤255) (cd nm:Int) (z0 z1 z2 z3 z4 z5 z6 z8 z9:Ob) (hl:s.dZ=false) (hc:s.code=233):af Tryz.prog 143 ([.ptr false 7 0,.int .i8 (T8.i8.wrap k),.agg [.int .i8 10,.int .u8 cd,.int .i8 nm]]) ([z0,z1,z2,z3,z4,z5,z6,.box [.int .i8 (av.w s),.bool (av.dZ s),.int .u8 (av.code s),.int .i8 (av.r s),.int .i8 (av.m s),.int .i64 (av.aa s),.int .i64 (av.ai s),.int .i64 (av.small s),.int .i64 (av.eQ s),.int .i64 (av.fB s),.int .i8 (av.high s)],z8,z9]) (xD (T8.i8.wrap k) 32 0 0 0 0 (av.eQ s) (s.code%16)) ([z0,z1,z2,z3,z4,z5,z6,.box [.int .i8 (av.w s),.bool (av.dZ s),.int .u8 (av.code s),.int .i8 (av.r s),.int .i8 (av.m s),.int .i64 (av.aa s),.int .i64 (av.ai s),.int .i64 (av.small s),.int .i64 (av.eQ s),.int .i64 (av.fB s),.int .i8 (av.high s)],z8,z9,.dead,.dead,.dead]):=by
 by_cases h0:av.code s=233
 ·exact (af.ab (aD:= [0,1,2,3,4,5,6,7,8,9]) (d:=(xD (T8.i8.wrap k) 32 0 0 0 0 (av.eQ s) (T8.i8.wrap (T8.u8.wrap (↑(SF (Sy 8 (av.code s)&&&Sy 8 15)):Int))))) (s':= [z0,z1,z2,z3,z4,z5,z6,rB s,z8,z9,.dead,.dead,.dead]) mixed ([tF,tF,tF,tF,tF,tF,tF,tF,tF,tT,tT,tC (eT (nt hl)),tC (eT (nt hl)),tC (eT (nt hl)),tC (eT (nt hl)),tC (eT (nt hl))]++ [tC (nt hl),tC (nt (dx 233 true h0))]) (by kernel_rfl)).cast (by first|(simp only [xD,D.agg.injEq,TR,D.int.injEq,true_and,and_true];exact AJ v0 v1;done)|(exfalso;(try simp only [decide_eq_true_eq,decide_eq_false_iff_not,beq_iff_eq,beq_eq_false_iff_ne,bne_iff_ne,ne_eq] at*);first|omega|contradiction)) (by rfl)
 exact (af.ab (aD:= [0,1,2,3,4,5,6,7,8,9]) (d:=(xD (T8.i8.wrap k) 8 0 0 0 0 (av.fB s) (T8.i8.wrap (T8.u8.wrap (↑(SF (Sy 8 (av.code s)&&&Sy 8 15)):Int))))) (s':= [z0,z1,z2,z3,z4,z5,z6,rB s,z8,z9,.dead,.dead,.dead]) mixed ([tF,tF,tF,tF,tF,tF,tF,tF,tF,tT,tT,tC (eT (nt hl)),tC (eT (nt hl)),tC (eT (nt hl)),tC (eT (nt hl)),tC (eT (nt hl))]++ [tC (nt hl),tC (nt (aw h0))]) (by kernel_rfl)).cast (by first|(simp only [xD,D.agg.injEq,TR,D.int.injEq,true_and,and_true];exact AJ v0 v1;done)|(exfalso;(try simp only [decide_eq_true_eq,decide_eq_false_iff_not,beq_iff_eq,beq_eq_false_iff_ne,bne_iff_ne,ne_eq] at*);first|omega|contradiction)) (by rfl)
theorem FO (s:av) (k:Int) (k0:0≤k) (k1:k≤31) (v0:0≤s.code) (v1:s.code≤255) (cd nm:Int) (z0 z1 z2 z3 z4 z5 z6 z8 z9:Ob) (hl:s.dZ=false) (hc:¬s.code=233):af Tryz.prog 143 ([.ptr false 7 0,.int .i8 (T8.i8.wrap k),.agg [.int .i8 10,.int .u8 cd,.int .i8 nm]]) ([z0,z1,z2,z3,z4,z5,z6,.box [.int .i8 (av.w s),.bool (av.dZ s),.int .u8 (av.code s),.int .i8 (av.r s),.int .i8 (av.m s),.int .i64 (av.aa s),.int .i64 (av.ai s),.int .i64 (av.small s),.int .i64 (av.eQ s),.int .i64 (av.fB s),.int .i8 (av.high s)],z8,z9]) (xD (T8.i8.wrap k) 8 0 0 0 0 (av.fB s) (s.code%16)) ([z0,z1,z2,z3,z4,z5,z6,.box [.int .i8 (av.w s),.bool (av.dZ s),.int .u8 (av.code s),.int .i8 (av.r s),.int .i8 (av.m s),.int .i64 (av.aa s),.int .i64 (av.ai s),.int .i64 (av.small s),.int .i64 (av.eQ s),.int .i64 (av.fB s),.int .i8 (av.high s)],z8,z9,.dead,.dead,.dead]):=by
 exact (af.ab (aD:= [0,1,2,3,4,5,6,7,8,9]) (d:=(xD (T8.i8.wrap k) 8 0 0 0 0 (av.fB s) (T8.i8.wrap (T8.u8.wrap (↑(SF (Sy 8 (av.code s)&&&Sy 8 15)):Int))))) (s':= [z0,z1,z2,z3,z4,z5,z6,rB s,z8,z9,.dead,.dead,.dead]) mixed ([tF,tF,tF,tF,tF,tF,tF,tF,tF,tT,tT,tC (eT (nt hl)),tC (eT (nt hl)),tC (eT (nt hl)),tC (eT (nt hl)),tC (eT (nt hl))]++ [tC (nt hl),tC (nt (by (simp only [dX] at*;omega):(av.code s==233)=false))]) (by kernel_rfl)).cast (by first|(simp only [xD,D.agg.injEq,TR,D.int.injEq,true_and,and_true];exact AJ v0 v1;done)|(exfalso;(try simp only [decide_eq_true_eq,decide_eq_false_iff_not,beq_iff_eq,beq_eq_false_iff_ne,bne_iff_ne,ne_eq] at*);first|omega|contradiction)) (by rfl)
theorem Hs (s:av) (k:Int) (k0:0≤k) (k1:k≤31) (v0:0≤s.code) (v1:s.code≤255) (cd nm:Int) (z0 z1 z2 z3 z4 z5 z6 z8 z9:Ob):af Tryz.prog 143 ([.ptr false 7 0,.int .i8 (T8.i8.wrap k),.agg [.int .i8 11,.int .u8 cd,.int .i8 nm]]) ([z0,z1,z2,z3,z4,z5,z6,rB s,z8,z9]) (xD (T8.i8.wrap k) 0 0 0 0 0 0 0) ([z0,z1,z2,z3,z4,z5,z6,rB s,z8,z9,.dead,.dead,.dead]):=by
 exact (af.ab (aD:= [0,1,2,3,4,5,6,7,8,9]) (d:=(xD (T8.i8.wrap k) 0 0 0 0 0 0 0)) (s':= [z0,z1,z2,z3,z4,z5,z6,rB s,z8,z9,.dead,.dead,.dead]) mixed [tF,tF,tF,tF,tF,tF,tF,tF,tF,tF,tT] (by kernel_rfl)).cast (by first|(rfl;done)|(exfalso;(try simp only [decide_eq_true_eq,decide_eq_false_iff_not,beq_iff_eq,beq_eq_false_iff_ne,bne_iff_ne,ne_eq] at*);first|omega|contradiction)) (by rfl)
end Go.Proofs.YtbfpahigdpigpaaGreat
namespace Go.Ev
open Go
def kI (x:XS):D:=xD x.op x.w x.dst x.src x.base x.aa x.ai x.cc
def wV (x:XS):Bool:=ct x.op x.w x.dst x.src x.base x.aa x.ai x.cc
def fJ (x:XS):List Int:=aM x.op x.w x.dst x.src x.base x.aa x.ai x.cc
theorem jn:∀n:Fin 32,1≤aA (n.val:Int)∧aA (n.val:Int)≤11:=by decide+kernel
theorem xR {k:Int} (k0:0≤k) (k1:k≤31):aA k=1∨aA k=2∨aA k=3∨aA k=4∨aA k=5∨aA k=6∨aA k=7∨aA k=8∨aA k=9∨aA k=10∨aA k=11:=by
 have:=jn ⟨k.toNat,by omega⟩
 have e:((⟨k.toNat,by omega⟩:Fin 32).val:Int)=k:=by simp;omega
 rw [e] at this
 omega
theorem Jf {k:Int} (k0:0≤k) (k1:k≤31):T8.i8.wrap k=k:=by rw [kK];omega
theorem BW {b:List Int} (hb:fO b) {s:av} (h:jT b=some s):0≤s.code∧s.code≤255∧(s.high=0∨s.high=8):=by
 have code:∀ {w R M:Int} {u:List Int},fO u→(M=0∨M=8)→fU w R M u=some s→0≤s.code∧s.code≤255∧(s.high=0∨s.high=8):=by
  intro w R M u hu hM h
  match u,hu with
  | [],_=>cases h
  |c::v,hu=>
   obtain ⟨⟨c0,c1⟩,hv⟩:=ek.1 hu
   by_cases hc:c=15
   ·subst hc
    match v,hv,h with
    | [],_,h=>rw [show fU w R M [15]=some (aZ w R M false 15 []) from rfl] at h;cases h;exact ⟨by simp [aZ],by simp [aZ],hM⟩
    |d::z,hv,h=>rw [gv] at h;cases h;exact ⟨(hv d (by simp)).1,(hv d (by simp)).2,hM⟩
   ·rw [cM hc] at h;cases h;exact ⟨c0,c1,hM⟩
 have x6:∀ {w:Int} {u:List Int},fO u→fA w u=some s→0≤s.code∧s.code≤255∧(s.high=0∨s.high=8):=by
  intro w u hu h
  match u,hu with
  | [],_=>cases h
  |c::v,hu=>
   by_cases hq:jm c=true
   ·simp only [fA,if_pos hq] at h
    exact code (ek.1 hu).2 (by omega) h
   ·simp only [fA,if_neg hq] at h
    exact code hu (.inl rfl) h
 unfold jT at h
 split at h
 ·exact x6 (fun x hx=>hb x (List.mem_of_mem_drop hx)) h
 ·exact x6 hb h
def jV (b:List Int) (x:XS):Bool:=wV x&&(fJ x).isPrefixOf b
def eO (b:List Int) (s:av):List Int→Option XS
  | []=>none
  |k::r=>if jV b (eA s k) then some (eA s k) else eO b s r
def m8 (b:List Int):Option XS:=if jV b (sy b) then some (sy b) else none
theorem oB {b:List Int} {x:XS} (h:jV b x=true):sy b=x∧∃s,jT b=some s∧eA s x.op=x:=by
 unfold jV at h
 rw [SG,List.isPrefixOf_iff_prefix] at h
 obtain ⟨hm,t,rfl⟩:=h
 exact ⟨FE hm t,Eg hm t⟩
theorem rq {b:List Int} {s:av} {x:XS} :∀ {l:List Int},eO b s l=some x→jV b x=true
 | [],h=>by cases h
 |k::r,h=>by
  unfold eO at h
  split at h
  ·rename_i hf;cases h;exact hf
  ·exact rq h
theorem ru {b:List Int} {s:av} :∀ {l:List Int},eO b s l=none→∀k∈l,jV b (eA s k)=false
 | [],_,k,hk=>by cases hk
 |a::r,h,k,hk=>by
  unfold eO at h
  split at h
  ·cases h
  ·rename_i hf
   rcases TJ.1 hk with rfl|hk
   ·simpa using hf
   ·exact ru h k hk
theorem Iu {x:XS} (h:wV x=true):x.op∈gV:=by
 have hs:=(dF h).2
 have Oq:aA x.op≠0:=by intro e;rw [e] at hs;simp [iw] at hs
 have:=hP Oq
 unfold gV
 simp only [TJ,List.not_mem_nil,or_false]
 exact this
theorem yP {b:List Int} {s:av} (hs:jT b=some s):eO b s gV=m8 b:=by
 unfold m8
 cases h:eO b s gV with
 |some x=>
  have hf:=rq h
  rw [(oB hf).1,if_pos hf]
 |none=>
  split
  ·rename_i hf
   obtain ⟨_,s',hs',ha⟩:=oB hf
   rw [hs] at hs'
   obtain rfl:=Option.some.inj hs'
   have NH:=Iu (by unfold jV at hf;rw [SG] at hf;exact hf.1)
   have:=ru h _ NH
   rw [ha,hf] at this
   cases this
  ·rfl
theorem BD {b:List Int} (hs:jT b=none):m8 b=none:=by
 unfold m8
 split
 ·rename_i hf
  obtain ⟨_,s',hs',_⟩:=oB hf
  rw [hs] at hs'
  cases hs'
 ·rfl
theorem I8 (l:List Int):(bD l).all isByte=true:=by simp [bD,isByte]
theorem tG (l:List Int) (n:Nat):((bD l).take n).all isByte=true:=by
 rw [show (bD l).take n=bD (l.take n) by simp [bD,List.map_take]]
 exact I8 _
def iG:List D:= [.int .i8 1,.int .u8 137,.int .i8 0,.int .i8 3,.int .u8 199,.int .i8 0,.int .i8 1,.int .u8 1,.int .i8 0,.int .i8 1,.int .u8 9,.int .i8 0,.int .i8 1,.int .u8 33,.int .i8 0,.int .i8 1,.int .u8 41,.int .i8 0,.int .i8 1,.int .u8 49,.int .i8 0,.int .i8 1,.int .u8 57,.int .i8 0,.int .i8 1,.int .u8 133,.int .i8 0,.int .i8 3,.int .u8 129,.int .i8 0,.int .i8 3,.int .u8 129,.int .i8 1,.int .i8 3,.int .u8 129,.int .i8 4,.int .i8 3,.int .u8 129,.int .i8 5,.int .i8 3,.int .u8 129,.int .i8 6,.int .i8 3,.int .u8 129,.int .i8 7,.int .i8 3,.int .u8 247,.int .i8 0,.int .i8 2,.int .u8 175,.int .i8 0,.int .i8 4,.int .u8 193,.int .i8 4,.int .i8 4,.int .u8 193,.int .i8 5,.int .i8 4,.int .u8 193,.int .i8 7,.int .i8 5,.int .u8 211,.int .i8 4,.int .i8 5,.int .u8 211,.int .i8 5,.int .i8 5,.int .u8 211,.int .i8 7,.int .i8 5,.int .u8 247,.int .i8 3,.int .i8 5,.int .u8 247,.int .i8 6,.int .i8 6,.int .u8 64,.int .i8 0,.int .i8 7,.int .u8 139,.int .i8 0,.int .i8 8,.int .u8 137,.int .i8 0,.int .i8 9,.int .u8 233,.int .i8 0,.int .i8 10,.int .u8 128,.int .i8 0,.int .i8 11,.int .u8 195,.int .i8 0,.int .i8 11,.int .u8 5,.int .i8 0]
theorem CS (n:Nat) (hn:n<32):(iG.drop (n*3)).take 3= [D.int .i8 (aA (n:Int)),D.int .u8 (bp (n:Int)),D.int .i8 (cI (n:Int))]:=by
 have:n=0∨n=1∨n=2∨n=3∨n=4∨n=5∨n=6∨n=7∨n=8∨n=9∨n=10∨n=11∨n=12∨n=13∨n=14∨n=15∨n=16∨n=17∨n=18∨n=19∨n=20∨n=21∨n=22∨n=23∨n=24∨n=25∨n=26∨n=27∨n=28∨n=29∨n=30∨n=31:=by omega
 rcases this with rfl|rfl|rfl|rfl|rfl|rfl|rfl|rfl|rfl|rfl|rfl|rfl|rfl|rfl|rfl|rfl|rfl|rfl|rfl|rfl|rfl|rfl|rfl|rfl|rfl|rfl|rfl|rfl|rfl|rfl|rfl|rfl<;>rfl
theorem ny {k:Int} (k0:0≤k) (k1:k≤31):hB iG (k.toNat*3) 3 [D.int .i8 (aA k),D.int .u8 (bp k),D.int .i8 (cI k)]:=by
 have h:=CS k.toNat (by omega)
 have e:(k.toNat:Int)=k:=by omega
 rw [e] at h
 refine ⟨h,?_⟩
 have hl:iG.length=96:=rfl
 rw [hl]
 omega
theorem F4 {l:List Int} (h:jG l):fO l:=by
 intro x hx
 exact h x hx
theorem xv {x:XS} (h:wV x=true):fO (fJ x):=F4 (vL h)
theorem G9 {own b:List Int} (ho:fO own) (hb:fO b):(own.isPrefixOf b=true↔((bD own).length:Int)≤((bD b).length:Int)∧((jZ (bD own)).toList==(jZ (List.take (Sz ((SA (bD own):Nat):Int)) (bD b))).toList)=true):=by
 rw [List.isPrefixOf_iff_prefix,List.prefix_iff_eq_take,aN,aN,Int.toNat_natCast,show (bD b).take own.length=bD (b.take own.length) by simp [bD,List.map_take],beq_iff_eq]
 constructor
 ·intro h
  refine ⟨?_,by rw [← h]⟩
  have:=congrArg SA h
  rw [List.length_take] at this
  omega
 ·rintro ⟨_,h2⟩
  exact I1 ho (fun x hx=>hb x (List.mem_of_mem_take hx)) h2
theorem Eh {n:Nat} (hn:n<32):gV.drop n=(n:Int)::gV.drop (n+1):=by
 have:n=0∨n=1∨n=2∨n=3∨n=4∨n=5∨n=6∨n=7∨n=8∨n=9∨n=10∨n=11∨n=12∨n=13∨n=14∨n=15∨n=16∨n=17∨n=18∨n=19∨n=20∨n=21∨n=22∨n=23∨n=24∨n=25∨n=26∨n=27∨n=28∨n=29∨n=30∨n=31:=by omega
 rcases this with rfl|rfl|rfl|rfl|rfl|rfl|rfl|rfl|rfl|rfl|rfl|rfl|rfl|rfl|rfl|rfl|rfl|rfl|rfl|rfl|rfl|rfl|rfl|rfl|rfl|rfl|rfl|rfl|rfl|rfl|rfl|rfl<;>rfl
theorem I2 (s:av) (k:Int):(eA s k).op=k:=by
 simp only [eA,lA,apply_ite XS.op,ite_self]
def Jo:Option XS→D
  |none=> .aC [xD 0 0 0 0 0 0 0 0,.int .i64 0,.int .i64 30]
  |some x=> .aC [kI x,.int .i64 (fJ x).length,.int .i64 0]
end Go.Ev
namespace Go.Proofs.YtbfpahigdpigpaaGreat
open Go Go.Ev
theorem A0 (s:av) (k:Int) (k0:0≤k) (k1:k≤31) (v0:0≤s.code) (v1:s.code≤255) (hh:s.high=0∨s.high=8) (z0 z1 z2 z3 z4 z5 z6 z8 z9:Ob):
  af Tryz.prog 143 [.ptr false 7 0,.int .i8 (T8.i8.wrap k),.agg [.int .i8 (aA k),.int .u8 (bp k),.int .i8 (cI k)]]
   [z0,z1,z2,z3,z4,z5,z6,.box [.int .i8 s.w,.bool s.dZ,.int .u8 s.code,.int .i8 s.r,.int .i8 s.m,.int .i64 s.aa,.int .i64 s.ai,.int .i64 s.small,.int .i64 s.eQ,.int .i64 s.fB,.int .i8 s.high],z8,z9] (kI (eA s k))
   [z0,z1,z2,z3,z4,z5,z6,.box [.int .i8 s.w,.bool s.dZ,.int .u8 s.code,.int .i8 s.r,.int .i8 s.m,.int .i64 s.aa,.int .i64 s.ai,.int .i64 s.small,.int .i64 s.eQ,.int .i64 s.fB,.int .i8 s.high],z8,z9,.dead,.dead,.dead]:=by
 have hw:=Jf k0 k1
 have fin:∀ {sh:Int} {d:D} {S1 S2:List Ob},aA k=sh→af Tryz.prog 143 [.ptr false 7 0,.int .i8 (T8.i8.wrap k),.agg [.int .i8 sh,.int .u8 (bp k),.int .i8 (cI k)]] S1 d S2→d=kI (eA s k)→
   af Tryz.prog 143 [.ptr false 7 0,.int .i8 (T8.i8.wrap k),.agg [.int .i8 (aA k),.int .u8 (bp k),.int .i8 (cI k)]] S1 (kI (eA s k)) S2:=by
  intro sh d S1 S2 e h hd
  rw [e,← hd]
  exact h
 rcases xR k0 k1 with h|h|h|h|h|h|h|h|h|h|h
 ·exact fin h (I7 s k k0 k1 v0 v1 _ _ z0 z1 z2 z3 z4 z5 z6 z8 z9) (by simp [eA,lA,kI,h,hw])
 ·exact fin h (I6 s k k0 k1 v0 v1 _ _ z0 z1 z2 z3 z4 z5 z6 z8 z9) (by simp [eA,lA,kI,h,hw])
 ·by_cases hk:k=1
  ·by_cases hc:s.code<184
   ·exact fin h (Hq s k k0 k1 v0 v1 _ _ z0 z1 z2 z3 z4 z5 z6 z8 z9 hk hc) (by simp [eA,lA,kI,h,hw];rw [if_neg (by omega)];simp)
   ·by_cases hd:s.code<192
    ·exact fin h (Hp s k k0 k1 v0 v1 _ _ z0 z1 z2 z3 z4 z5 z6 z8 z9 hk (by omega) hd hh) (by simp [eA,lA,kI,h,hw];rw [if_pos (by omega)];simp)
    ·exact fin h (Hr s k k0 k1 v0 v1 _ _ z0 z1 z2 z3 z4 z5 z6 z8 z9 hk (by omega)) (by simp [eA,lA,kI,h,hw];rw [if_neg (by omega)];simp)
  ·exact fin h (Ho s k k0 k1 v0 v1 _ _ z0 z1 z2 z3 z4 z5 z6 z8 z9 hk) (by simp [eA,lA,kI,h,hw,hk])
 ·exact fin h (I5 s k k0 k1 v0 v1 _ _ z0 z1 z2 z3 z4 z5 z6 z8 z9) (by simp [eA,lA,kI,h,hw])
 ·exact fin h (I4 s k k0 k1 v0 v1 _ _ z0 z1 z2 z3 z4 z5 z6 z8 z9) (by simp [eA,lA,kI,h,hw])
 ·exact fin h (I3 s k k0 k1 v0 v1 _ _ z0 z1 z2 z3 z4 z5 z6 z8 z9) (by simp [eA,lA,kI,h,hw])
 ·cases hl:s.dZ
  ·refine fin h (hl▸Hn s k k0 k1 v0 v1 _ _ z0 z1 z2 z3 z4 z5 z6 z8 z9 hl) (by simp [eA,lA,kI,h,hw,hl])
  ·refine fin h (hl▸Hm s k k0 k1 v0 v1 _ _ z0 z1 z2 z3 z4 z5 z6 z8 z9 hl) (by simp [eA,lA,kI,h,hw,hl])
 ·by_cases hc:s.code=136
  ·exact fin h (Hk s k k0 k1 v0 v1 _ _ z0 z1 z2 z3 z4 z5 z6 z8 z9 hc) (by simp [eA,lA,kI,h,hw,hc])
  ·exact fin h (Hl s k k0 k1 v0 v1 _ _ z0 z1 z2 z3 z4 z5 z6 z8 z9 hc) (by simp [eA,lA,kI,h,hw,hc])
 ·cases hl:s.dZ
  ·by_cases hc:s.code=233
   ·exact fin h (hl▸Hi s k k0 k1 v0 v1 _ _ z0 z1 z2 z3 z4 z5 z6 z8 z9 hl hc) (by simp [eA,lA,kI,h,hw,hc])
   ·exact fin h (hl▸Hh s k k0 k1 v0 v1 _ _ z0 z1 z2 z3 z4 z5 z6 z8 z9 hl hc) (by simp [eA,lA,kI,h,hw,hl,hc])
  ·exact fin h (hl▸Hj s k k0 k1 v0 v1 _ _ z0 z1 z2 z3 z4 z5 z6 z8 z9 hl) (by simp [eA,lA,kI,h,hw,hl])
 ·cases hl:s.dZ
  ·by_cases hc:s.code=233
   ·exact fin h (hl▸FQ s k k0 k1 v0 v1 _ _ z0 z1 z2 z3 z4 z5 z6 z8 z9 hl hc) (by simp [eA,lA,kI,h,hw,hc])
   ·exact fin h (hl▸FO s k k0 k1 v0 v1 _ _ z0 z1 z2 z3 z4 z5 z6 z8 z9 hl hc) (by simp [eA,lA,kI,h,hw,hl,hc])
  ·exact fin h (hl▸FR s k k0 k1 v0 v1 _ _ z0 z1 z2 z3 z4 z5 z6 z8 z9 hl) (by simp [eA,lA,kI,h,hw,hl])
 ·exact fin h (Hs s k k0 k1 v0 v1 _ _ z0 z1 z2 z3 z4 z5 z6 z8 z9) (by simp [eA,lA,kI,h,hw])
def bF:List D:= [.int .i8 1,.int .u8 137,.int .i8 0,.int .i8 3,.int .u8 199,.int .i8 0,.int .i8 1,.int .u8 1,.int .i8 0,.int .i8 1,.int .u8 9,.int .i8 0,.int .i8 1,.int .u8 33,.int .i8 0,.int .i8 1,.int .u8 41,.int .i8 0,.int .i8 1,.int .u8 49,.int .i8 0,.int .i8 1,.int .u8 57,.int .i8 0,.int .i8 1,.int .u8 133,.int .i8 0,.int .i8 3,.int .u8 129,.int .i8 0,.int .i8 3,.int .u8 129,.int .i8 1,.int .i8 3,.int .u8 129,.int .i8 4,.int .i8 3,.int .u8 129,.int .i8 5,.int .i8 3,.int .u8 129,.int .i8 6,.int .i8 3,.int .u8 129,.int .i8 7,.int .i8 3,.int .u8 247,.int .i8 0,.int .i8 2,.int .u8 175,.int .i8 0,.int .i8 4,.int .u8 193,.int .i8 4,.int .i8 4,.int .u8 193,.int .i8 5,.int .i8 4,.int .u8 193,.int .i8 7,.int .i8 5,.int .u8 211,.int .i8 4,.int .i8 5,.int .u8 211,.int .i8 5,.int .i8 5,.int .u8 211,.int .i8 7,.int .i8 5,.int .u8 247,.int .i8 3,.int .i8 5,.int .u8 247,.int .i8 6,.int .i8 6,.int .u8 64,.int .i8 0,.int .i8 7,.int .u8 139,.int .i8 0,.int .i8 8,.int .u8 137,.int .i8 0,.int .i8 9,.int .u8 233,.int .i8 0,.int .i8 10,.int .u8 128,.int .i8 0,.int .i8 11,.int .u8 195,.int .i8 0,.int .i8 11,.int .u8 5,.int .i8 0]
def dh (Me:Int):Prop:=aF Tryz.prog 73 ([.int .i8 Me]) (.aC [.agg [.int .i8 (aA Me),.int .u8 (bp Me),.int .i8 (cI Me)],.bool true])
theorem GR:dh 0:=by
 exact (lQ (d:= .aC [.agg [.int .i8 1,.int .u8 137,.int .i8 0],.bool true]) [.inl,tT,tT,tT,tF,tF,tT,.ep bF 0 3 ([.int .i8 1,.int .u8 137,.int .i8 0]) ⟨rfl,by decide⟩] (by kernel_rfl)).to (by simp [wk,ax];decide)
theorem GQ:dh 1:=by
 exact (lQ (d:= .aC [.agg [.int .i8 3,.int .u8 199,.int .i8 0],.bool true]) [.inl,tT,tT,tT,tF,tF,tT,.ep bF 3 3 ([.int .i8 3,.int .u8 199,.int .i8 0]) ⟨rfl,by decide⟩] (by kernel_rfl)).to (by simp [wk,ax];decide)
theorem GP:dh 2:=by
 exact (lQ (d:= .aC [.agg [.int .i8 1,.int .u8 1,.int .i8 0],.bool true]) [.inl,tT,tT,tT,tF,tF,tT,.ep bF 6 3 ([.int .i8 1,.int .u8 1,.int .i8 0]) ⟨rfl,by decide⟩] (by kernel_rfl)).to (by simp [wk,ax];decide)
theorem GO:dh 3:=by
 exact (lQ (d:= .aC [.agg [.int .i8 1,.int .u8 9,.int .i8 0],.bool true]) [.inl,tT,tT,tT,tF,tF,tT,.ep bF 9 3 ([.int .i8 1,.int .u8 9,.int .i8 0]) ⟨rfl,by decide⟩] (by kernel_rfl)).to (by simp [wk,ax];decide)
theorem GN:dh 4:=by
 exact (lQ (d:= .aC [.agg [.int .i8 1,.int .u8 33,.int .i8 0],.bool true]) [.inl,tT,tT,tT,tF,tF,tT,.ep bF 12 3 ([.int .i8 1,.int .u8 33,.int .i8 0]) ⟨rfl,by decide⟩] (by kernel_rfl)).to (by simp [wk,ax];decide)
theorem GM:dh 5:=by
 exact (lQ (d:= .aC [.agg [.int .i8 1,.int .u8 41,.int .i8 0],.bool true]) [.inl,tT,tT,tT,tF,tF,tT,.ep bF 15 3 ([.int .i8 1,.int .u8 41,.int .i8 0]) ⟨rfl,by decide⟩] (by kernel_rfl)).to (by simp [wk,ax];decide)
theorem GL:dh 6:=by
 exact (lQ (d:= .aC [.agg [.int .i8 1,.int .u8 49,.int .i8 0],.bool true]) [.inl,tT,tT,tT,tF,tF,tT,.ep bF 18 3 ([.int .i8 1,.int .u8 49,.int .i8 0]) ⟨rfl,by decide⟩] (by kernel_rfl)).to (by simp [wk,ax];decide)
theorem GK:dh 7:=by
 exact (lQ (d:= .aC [.agg [.int .i8 1,.int .u8 57,.int .i8 0],.bool true]) [.inl,tT,tT,tT,tF,tF,tT,.ep bF 21 3 ([.int .i8 1,.int .u8 57,.int .i8 0]) ⟨rfl,by decide⟩] (by kernel_rfl)).to (by simp [wk,ax];decide)
theorem GJ:dh 8:=by
 exact (lQ (d:= .aC [.agg [.int .i8 1,.int .u8 133,.int .i8 0],.bool true]) [.inl,tT,tT,tT,tF,tF,tT,.ep bF 24 3 ([.int .i8 1,.int .u8 133,.int .i8 0]) ⟨rfl,by decide⟩] (by kernel_rfl)).to (by simp [wk,ax];decide)
theorem GI:dh 9:=by
 exact (lQ (d:= .aC [.agg [.int .i8 3,.int .u8 129,.int .i8 0],.bool true]) [.inl,tT,tT,tT,tF,tF,tT,.ep bF 27 3 ([.int .i8 3,.int .u8 129,.int .i8 0]) ⟨rfl,by decide⟩] (by kernel_rfl)).to (by simp [wk,ax];decide)
theorem EP:dh 10:=by
 exact (lQ (d:= .aC [.agg [.int .i8 3,.int .u8 129,.int .i8 1],.bool true]) [.inl,tT,tT,tT,tF,tF,tT,.ep bF 30 3 ([.int .i8 3,.int .u8 129,.int .i8 1]) ⟨rfl,by decide⟩] (by kernel_rfl)).to (by simp [wk,ax];decide)
theorem EO:dh 11:=by
 exact (lQ (d:= .aC [.agg [.int .i8 3,.int .u8 129,.int .i8 4],.bool true]) [.inl,tT,tT,tT,tF,tF,tT,.ep bF 33 3 ([.int .i8 3,.int .u8 129,.int .i8 4]) ⟨rfl,by decide⟩] (by kernel_rfl)).to (by simp [wk,ax];decide)
theorem EN:dh 12:=by
 exact (lQ (d:= .aC [.agg [.int .i8 3,.int .u8 129,.int .i8 5],.bool true]) [.inl,tT,tT,tT,tF,tF,tT,.ep bF 36 3 ([.int .i8 3,.int .u8 129,.int .i8 5]) ⟨rfl,by decide⟩] (by kernel_rfl)).to (by simp [wk,ax];decide)
theorem EM:dh 13:=by
 exact (lQ (d:= .aC [.agg [.int .i8 3,.int .u8 129,.int .i8 6],.bool true]) [.inl,tT,tT,tT,tF,tF,tT,.ep bF 39 3 ([.int .i8 3,.int .u8 129,.int .i8 6]) ⟨rfl,by decide⟩] (by kernel_rfl)).to (by simp [wk,ax];decide)
theorem EK:dh 14:=by
 exact (lQ (d:= .aC [.agg [.int .i8 3,.int .u8 129,.int .i8 7],.bool true]) [.inl,tT,tT,tT,tF,tF,tT,.ep bF 42 3 ([.int .i8 3,.int .u8 129,.int .i8 7]) ⟨rfl,by decide⟩] (by kernel_rfl)).to (by simp [wk,ax];decide)
theorem EJ:dh 15:=by
 exact (lQ (d:= .aC [.agg [.int .i8 3,.int .u8 247,.int .i8 0],.bool true]) [.inl,tT,tT,tT,tF,tF,tT,.ep bF 45 3 ([.int .i8 3,.int .u8 247,.int .i8 0]) ⟨rfl,by decide⟩] (by kernel_rfl)).to (by simp [wk,ax];decide)
theorem EI:dh 16:=by
 exact (lQ (d:= .aC [.agg [.int .i8 2,.int .u8 175,.int .i8 0],.bool true]) [.inl,tT,tT,tT,tF,tF,tT,.ep bF 48 3 ([.int .i8 2,.int .u8 175,.int .i8 0]) ⟨rfl,by decide⟩] (by kernel_rfl)).to (by simp [wk,ax];decide)
theorem EH:dh 17:=by
 exact (lQ (d:= .aC [.agg [.int .i8 4,.int .u8 193,.int .i8 4],.bool true]) [.inl,tT,tT,tT,tF,tF,tT,.ep bF 51 3 ([.int .i8 4,.int .u8 193,.int .i8 4]) ⟨rfl,by decide⟩] (by kernel_rfl)).to (by simp [wk,ax];decide)
theorem EG:dh 18:=by
 exact (lQ (d:= .aC [.agg [.int .i8 4,.int .u8 193,.int .i8 5],.bool true]) [.inl,tT,tT,tT,tF,tF,tT,.ep bF 54 3 ([.int .i8 4,.int .u8 193,.int .i8 5]) ⟨rfl,by decide⟩] (by kernel_rfl)).to (by simp [wk,ax];decide)
theorem EF:dh 19:=by
 exact (lQ (d:= .aC [.agg [.int .i8 4,.int .u8 193,.int .i8 7],.bool true]) [.inl,tT,tT,tT,tF,tF,tT,.ep bF 57 3 ([.int .i8 4,.int .u8 193,.int .i8 7]) ⟨rfl,by decide⟩] (by kernel_rfl)).to (by simp [wk,ax];decide)
theorem EE:dh 20:=by
 exact (lQ (d:= .aC [.agg [.int .i8 5,.int .u8 211,.int .i8 4],.bool true]) [.inl,tT,tT,tT,tF,tF,tT,.ep bF 60 3 ([.int .i8 5,.int .u8 211,.int .i8 4]) ⟨rfl,by decide⟩] (by kernel_rfl)).to (by simp [wk,ax];decide)
theorem ED:dh 21:=by
 exact (lQ (d:= .aC [.agg [.int .i8 5,.int .u8 211,.int .i8 5],.bool true]) [.inl,tT,tT,tT,tF,tF,tT,.ep bF 63 3 ([.int .i8 5,.int .u8 211,.int .i8 5]) ⟨rfl,by decide⟩] (by kernel_rfl)).to (by simp [wk,ax];decide)
theorem EC:dh 22:=by
 exact (lQ (d:= .aC [.agg [.int .i8 5,.int .u8 211,.int .i8 7],.bool true]) [.inl,tT,tT,tT,tF,tF,tT,.ep bF 66 3 ([.int .i8 5,.int .u8 211,.int .i8 7]) ⟨rfl,by decide⟩] (by kernel_rfl)).to (by simp [wk,ax];decide)
theorem EB:dh 23:=by
 exact (lQ (d:= .aC [.agg [.int .i8 5,.int .u8 247,.int .i8 3],.bool true]) [.inl,tT,tT,tT,tF,tF,tT,.ep bF 69 3 ([.int .i8 5,.int .u8 247,.int .i8 3]) ⟨rfl,by decide⟩] (by kernel_rfl)).to (by simp [wk,ax];decide)
theorem EA:dh 24:=by
 exact (lQ (d:= .aC [.agg [.int .i8 5,.int .u8 247,.int .i8 6],.bool true]) [.inl,tT,tT,tT,tF,tF,tT,.ep bF 72 3 ([.int .i8 5,.int .u8 247,.int .i8 6]) ⟨rfl,by decide⟩] (by kernel_rfl)).to (by simp [wk,ax];decide)
theorem Ez:dh 25:=by
 exact (lQ (d:= .aC [.agg [.int .i8 6,.int .u8 64,.int .i8 0],.bool true]) [.inl,tT,tT,tT,tF,tF,tT,.ep bF 75 3 ([.int .i8 6,.int .u8 64,.int .i8 0]) ⟨rfl,by decide⟩] (by kernel_rfl)).to (by simp [wk,ax];decide)
theorem Ey:dh 26:=by
 exact (lQ (d:= .aC [.agg [.int .i8 7,.int .u8 139,.int .i8 0],.bool true]) [.inl,tT,tT,tT,tF,tF,tT,.ep bF 78 3 ([.int .i8 7,.int .u8 139,.int .i8 0]) ⟨rfl,by decide⟩] (by kernel_rfl)).to (by simp [wk,ax];decide)
theorem Ew:dh 27:=by
 exact (lQ (d:= .aC [.agg [.int .i8 8,.int .u8 137,.int .i8 0],.bool true]) [.inl,tT,tT,tT,tF,tF,tT,.ep bF 81 3 ([.int .i8 8,.int .u8 137,.int .i8 0]) ⟨rfl,by decide⟩] (by kernel_rfl)).to (by simp [wk,ax];decide)
theorem Eu:dh 28:=by
 exact (lQ (d:= .aC [.agg [.int .i8 9,.int .u8 233,.int .i8 0],.bool true]) [.inl,tT,tT,tT,tF,tF,tT,.ep bF 84 3 ([.int .i8 9,.int .u8 233,.int .i8 0]) ⟨rfl,by decide⟩] (by kernel_rfl)).to (by simp [wk,ax];decide)
theorem Et:dh 29:=by
 exact (lQ (d:= .aC [.agg [.int .i8 10,.int .u8 128,.int .i8 0],.bool true]) [.inl,tT,tT,tT,tF,tF,tT,.ep bF 87 3 ([.int .i8 10,.int .u8 128,.int .i8 0]) ⟨rfl,by decide⟩] (by kernel_rfl)).to (by simp [wk,ax];decide)
theorem Es:dh 30:=by
 exact (lQ (d:= .aC [.agg [.int .i8 11,.int .u8 195,.int .i8 0],.bool true]) [.inl,tT,tT,tT,tF,tF,tT,.ep bF 90 3 ([.int .i8 11,.int .u8 195,.int .i8 0]) ⟨rfl,by decide⟩] (by kernel_rfl)).to (by simp [wk,ax];decide)
theorem Er:dh 31:=by
 exact (lQ (d:= .aC [.agg [.int .i8 11,.int .u8 5,.int .i8 0],.bool true]) [.inl,tT,tT,tT,tF,tF,tT,.ep bF 93 3 ([.int .i8 11,.int .u8 5,.int .i8 0]) ⟨rfl,by decide⟩] (by kernel_rfl)).to (by simp [wk,ax];decide)
theorem Cl (op:Int) (h:op<0):aF Tryz.prog 73 ([.int .i8 op]) (.aC [.agg [.int .i8 0,.int .u8 0,.int .i8 0],.bool false]):=by
 exact (lQ (d:= .aC [.agg [.int .i8 0,.int .u8 0,.int .i8 0],.bool false]) ([.inl]++Sx 3 (tC (eF (decide_eq_true h)))++ [tC (decide_eq_true h),tT]) (by kernel_rfl)).to (by simp [wk,ax])
theorem yv (op:Int) (h:32≤op) (ho:op≤127):aF Tryz.prog 73 ([.int .i8 op]) (.aC [.agg [.int .i8 0,.int .u8 0,.int .i8 0],.bool false]):=by
 exact (lQ (d:= .aC [.agg [.int .i8 0,.int .u8 0,.int .i8 0],.bool false]) ([.inl]++Sx 3 (tC (eF (lb 0 (decide_eq_false (SD.2 h)))))++ [tC (lb 0 (decide_eq_false (SD.2 h))),tC (bB 32 (by (simp only [dX] at*;omega):(decide (T8.wrap T8.i64 op<32))=false))]) (by kernel_rfl)).to (by simp [wk,ax])
theorem cW (n:Int):aF Tryz.prog 99 ([.int .i8 n]) (.bool (bA n)):=by
 rcases ef (decide (n<0)) with h0|h0
 ·exact (KU (d:= .bool false) [tC (eT (bB 0 h0)),tC (eT (bB 0 h0)),tC (bB 0 h0)] (by kernel_rfl)).to (by (try simp only [cP,wk,ax,aO,ae,ak,bA,fE,bu,bj] at*);first|(simp [wk,ax,aO,ae,ak,bA,fE,bu,bj, *];done)|(simp [wk,ax,aO,ae,ak,bA,fE,bu,bj, *];omega)|(rw [SM];simp [wk,ax,aO,ae,ak,bA,fE,bu,bj, *];done)|(rw [SM];simp [wk,ax,aO,ae,ak,bA,fE,bu,bj, *];omega)|(rw [SM];simp [wk,ax,aO,ae,ak,bA,fE,bu,bj, *];grind)|(subst_vars;rw [SM];simp;grind))
 exact (KU (d:= .bool (decide (n<16))) [tC (eT (bB 0 h0)),tC (eT (bB 0 h0)),tC (bB 0 h0)] (by kernel_rfl)).to (by (try simp only [cP,wk,ax,aO,ae,ak,bA,fE,bu,bj] at*);first|(simp [wk,ax,aO,ae,ak,bA,fE,bu,bj, *];done)|(simp [wk,ax,aO,ae,ak,bA,fE,bu,bj, *];omega)|(rw [SM];simp [wk,ax,aO,ae,ak,bA,fE,bu,bj, *];done)|(rw [SM];simp [wk,ax,aO,ae,ak,bA,fE,bu,bj, *];omega)|(rw [SM];simp [wk,ax,aO,ae,ak,bA,fE,bu,bj, *];grind)|(subst_vars;rw [SM];simp;grind))
theorem pM (n:Int):aF Tryz.prog 101 ([.int .i8 n]) (.bool (fE n)):=by
 rcases ef (decide (n<2)) with h0|h0
 ·exact (GV (d:= .bool false) [tC (eT (bB 2 h0)),tC (eT (bB 2 h0)),tC (bB 2 h0),tT,tT,tT,tC (eT (bB 12 (CG 12 h0))),tC (eT (bB 12 (CG 12 h0))),tT,tC (bB 12 (CG 12 h0)),tF] (by kernel_rfl)).to (by (try simp only [cP,wk,ax,aO,ae,ak,bA,fE,bu,bj] at*);first|(simp [wk,ax,aO,ae,ak,bA,fE,bu,bj, *];done)|(simp [wk,ax,aO,ae,ak,bA,fE,bu,bj, *];omega)|(rw [SM];simp [wk,ax,aO,ae,ak,bA,fE,bu,bj, *];done)|(rw [SM];simp [wk,ax,aO,ae,ak,bA,fE,bu,bj, *];omega)|(rw [SM];simp [wk,ax,aO,ae,ak,bA,fE,bu,bj, *];grind)|(subst_vars;rw [SM];simp;grind))
 let E1:EL:= [tC (eT (bB 2 h0)),tC (eT (bB 2 h0)),tC (bB 2 h0)]
 rcases ef (decide (n<8)) with h1|h1
 ·exact (GV (d:= .bool true) (E1++Sx 4 (tC (eF (dP 7 h1)))++ [tC (dP 7 h1)]) (by kernel_rfl)).to (by clear E1;(try simp only [cP,wk,ax,aO,ae,ak,bA,fE,bu,bj] at*);first|(simp [wk,ax,aO,ae,ak,bA,fE,bu,bj, *];done)|(simp [wk,ax,aO,ae,ak,bA,fE,bu,bj, *];omega)|(rw [SM];simp [wk,ax,aO,ae,ak,bA,fE,bu,bj, *];done)|(rw [SM];simp [wk,ax,aO,ae,ak,bA,fE,bu,bj, *];omega)|(rw [SM];simp [wk,ax,aO,ae,ak,bA,fE,bu,bj, *];grind)|(subst_vars;rw [SM];simp;grind))
 rcases ef (decide (n<12)) with h2|h2
 ·exact (GV (d:= .bool false) (E1++Sx 3 (tC (eF (dP 7 h1)))++ [tC (eT (bB 12 h2)),tC (eT (bB 12 h2)),tC (eF (dP 7 h1)),tC (bB 12 h2),tC (dP 7 h1)]) (by kernel_rfl)).to (by clear E1;(try simp only [cP,wk,ax,aO,ae,ak,bA,fE,bu,bj] at*);first|(simp [wk,ax,aO,ae,ak,bA,fE,bu,bj, *];done)|(simp [wk,ax,aO,ae,ak,bA,fE,bu,bj, *];omega)|(rw [SM];simp [wk,ax,aO,ae,ak,bA,fE,bu,bj, *];done)|(rw [SM];simp [wk,ax,aO,ae,ak,bA,fE,bu,bj, *];omega)|(rw [SM];simp [wk,ax,aO,ae,ak,bA,fE,bu,bj, *];grind)|(subst_vars;rw [SM];simp;grind))
 exact (GV (d:= .bool (decide (n≤15))) (E1++Sx 3 (tC (eF (dP 7 h1)))++ [tC (eT (bB 12 h2)),tC (eT (bB 12 h2)),tC (eF (dP 7 h1)),tC (bB 12 h2),tC (dP 7 h1)]) (by kernel_rfl)).to (by clear E1;(try simp only [cP,wk,ax,aO,ae,ak,bA,fE,bu,bj] at*);first|(simp [wk,ax,aO,ae,ak,bA,fE,bu,bj, *];done)|(simp [wk,ax,aO,ae,ak,bA,fE,bu,bj, *];omega)|(rw [SM];simp [wk,ax,aO,ae,ak,bA,fE,bu,bj, *];done)|(rw [SM];simp [wk,ax,aO,ae,ak,bA,fE,bu,bj, *];omega)|(rw [SM];simp [wk,ax,aO,ae,ak,bA,fE,bu,bj, *];grind)|(subst_vars;rw [SM];simp;grind))
theorem br (n a b:Int):aF Tryz.prog 100 ([.int .i64 n,.int .i64 a,.int .i64 b]) (.bool (decide (a≤n)&&decide (n≤b))):=by
 rcases ef (decide (n≥a)) with h0|h0
 ·exact (JB (d:= .bool (decide (n≤b))) [tC (eT h0),tC (eT h0),tC (eT h0),tC h0] (by kernel_rfl)).to (by (try simp only [cP,wk,ax,aO,ae,ak,bA,fE,bu,bj] at*);(simp [wk,ax,aO,ae,ak,bA,fE,bu,bj, *];done))
 exact (JB (d:= .bool false) [tC (eT h0),tC (eT h0),tC (eT h0),tC h0] (by kernel_rfl)).to (by (try simp only [cP,wk,ax,aO,ae,ak,bA,fE,bu,bj] at*);(simp [wk,ax,aO,ae,ak,bA,fE,bu,bj, *];done))
theorem jL (n:Int):aF Tryz.prog 102 ([.int .i8 n]) (.bool (bu n)):=by
 by_cases h0:n=8
 ·subst h0
  exact (ES (d:= .bool true) [tT,tT] (by kernel_rfl)).to (by (try simp only [cP,wk,ax,aO,ae,ak,bA,fE,bu,bj] at*);(simp [wk,ax,aO,ae,ak,bA,fE,bu,bj, *];done))
 by_cases h1:n=16
 ·subst h1
  exact (ES (d:= .bool true) [tC (aw h0),tT,tT] (by kernel_rfl)).to (by (try simp only [cP,wk,ax,aO,ae,ak,bA,fE,bu,bj] at*);(simp [wk,ax,aO,ae,ak,bA,fE,bu,bj, *];done))
 by_cases h2:n=32
 ·subst h2
  exact (ES (d:= .bool true) [tC (aw h0),tC (aw h1),tT,tT] (by kernel_rfl)).to (by (try simp only [cP,wk,ax,aO,ae,ak,bA,fE,bu,bj] at*);(simp [wk,ax,aO,ae,ak,bA,fE,bu,bj, *];done))
 by_cases h3:n=64
 ·subst h3
  exact (ES (d:= .bool true) [tC (aw h0),tC (aw h1),tC (aw h2),tT] (by kernel_rfl)).to (by (try simp only [cP,wk,ax,aO,ae,ak,bA,fE,bu,bj] at*);(simp [wk,ax,aO,ae,ak,bA,fE,bu,bj, *];done))
 exact (ES (d:= .bool false) [tC (aw h0),tC (aw h1),tC (aw h2),tC (aw h3)] (by kernel_rfl)).to (by (try simp only [cP,wk,ax,aO,ae,ak,bA,fE,bu,bj] at*);(simp [wk,ax,aO,ae,ak,bA,fE,bu,bj, *];done))
theorem zW (op w dst src base aa ai cc:Int):aF Tryz.prog 98 ([xD op w dst src base aa ai cc,.int .i8 1]) (xD 0 0 0 0 base aa ai cc):=by
 let E1:EL:= [tT,tT,tT,tT,tF,tF,.flat _ _ eC]
 by_cases h0:base=0
 ·subst h0
  by_cases h1:aa=0
  ·subst h1
   by_cases h2:ai=0
   ·subst h2
    by_cases h3:cc=0
    ·subst h3
     exact (hG (d:=(xD 0 0 0 0 0 0 0 0)) (E1++ [tF]) (by kernel_rfl)).to (by (simp [wk,ax,];done))
    exact (hG (d:=(xD 0 0 0 0 0 0 0 cc)) (E1++ [tC (nt (aB rfl (aB rfl (aB rfl (aB rfl (aB rfl (aB rfl (aB rfl (cz (y:=true) (aw h3))))))))))]) (by kernel_rfl)).to (by (simp [wk,ax,h3];done))
   exact (hG (d:=(xD 0 0 0 0 0 0 ai cc)) (E1++ [tC (nt (aB rfl (aB rfl (aB rfl (aB rfl (aB rfl (aB rfl (cz (y:=ae [.int .i8 cc] [.int .i8 0]) (aw h2)))))))))]) (by kernel_rfl)).to (by (simp [wk,ax,h2];done))
  exact (hG (d:=(xD 0 0 0 0 0 aa ai cc)) (E1++ [tC (nt (aB rfl (aB rfl (aB rfl (aB rfl (aB rfl (cz (y:=ae [.int .i64 ai,.int .i8 cc] [.int .i64 0,.int .i8 0]) (aw h1))))))))]) (by kernel_rfl)).to (by (simp [wk,ax,h1];done))
 exact (hG (d:=(xD 0 0 0 0 base aa ai cc)) (E1++ [tC (nt (aB rfl (aB rfl (aB rfl (aB rfl (cz (y:=ae [.int .i64 aa,.int .i64 ai,.int .i8 cc] [.int .i64 0,.int .i64 0,.int .i8 0]) (aw h0)))))))]) (by kernel_rfl)).to (by (simp [wk,ax,h0];done))
theorem zV (op w dst src base aa ai cc:Int):aF Tryz.prog 98 ([xD op w dst src base aa ai cc,.int .i8 2]) (xD 0 0 0 0 base aa ai cc):=by
 let E1:EL:= [tF,tT,tT,tT,tT,tF,tF,.flat _ _ eC]
 by_cases h0:base=0
 ·subst h0
  by_cases h1:aa=0
  ·subst h1
   by_cases h2:ai=0
   ·subst h2
    by_cases h3:cc=0
    ·subst h3
     exact (hG (d:=(xD 0 0 0 0 0 0 0 0)) (E1++ [tF]) (by kernel_rfl)).to (by (simp [wk,ax,];done))
    exact (hG (d:=(xD 0 0 0 0 0 0 0 cc)) (E1++ [tC (nt (aB rfl (aB rfl (aB rfl (aB rfl (aB rfl (aB rfl (aB rfl (cz (y:=true) (aw h3))))))))))]) (by kernel_rfl)).to (by (simp [wk,ax,h3];done))
   exact (hG (d:=(xD 0 0 0 0 0 0 ai cc)) (E1++ [tC (nt (aB rfl (aB rfl (aB rfl (aB rfl (aB rfl (aB rfl (cz (y:=ae [.int .i8 cc] [.int .i8 0]) (aw h2)))))))))]) (by kernel_rfl)).to (by (simp [wk,ax,h2];done))
  exact (hG (d:=(xD 0 0 0 0 0 aa ai cc)) (E1++ [tC (nt (aB rfl (aB rfl (aB rfl (aB rfl (aB rfl (cz (y:=ae [.int .i64 ai,.int .i8 cc] [.int .i64 0,.int .i8 0]) (aw h1))))))))]) (by kernel_rfl)).to (by (simp [wk,ax,h1];done))
 exact (hG (d:=(xD 0 0 0 0 base aa ai cc)) (E1++ [tC (nt (aB rfl (aB rfl (aB rfl (aB rfl (cz (y:=ae [.int .i64 aa,.int .i64 ai,.int .i8 cc] [.int .i64 0,.int .i64 0,.int .i8 0]) (aw h0)))))))]) (by kernel_rfl)).to (by (simp [wk,ax,h0];done))
theorem zU (op w dst src base aa ai cc:Int):aF Tryz.prog 98 ([xD op w dst src base aa ai cc,.int .i8 3]) (xD 0 0 0 src base aa 0 cc):=by
 let E1:EL:= [tF,tF,tF,tT,tT,tT,tT,tF,tF,.flat _ _ eC]
 by_cases h0:src=0
 ·subst h0
  by_cases h1:base=0
  ·subst h1
   by_cases h2:aa=0
   ·subst h2
    by_cases h3:cc=0
    ·subst h3
     exact (hG (d:=(xD 0 0 0 0 0 0 0 0)) (E1++ [tF]) (by kernel_rfl)).to (by (simp [wk,ax,];done))
    exact (hG (d:=(xD 0 0 0 0 0 0 0 cc)) (E1++ [tC (nt (aB rfl (aB rfl (aB rfl (aB rfl (aB rfl (aB rfl (aB rfl (cz (y:=true) (aw h3))))))))))]) (by kernel_rfl)).to (by (simp [wk,ax,h3];done))
   exact (hG (d:=(xD 0 0 0 0 0 aa 0 cc)) (E1++ [tC (nt (aB rfl (aB rfl (aB rfl (aB rfl (aB rfl (cz (y:=ae [.int .i64 0,.int .i8 cc] [.int .i64 0,.int .i8 0]) (aw h2))))))))]) (by kernel_rfl)).to (by (simp [wk,ax,h2];done))
  exact (hG (d:=(xD 0 0 0 0 base aa 0 cc)) (E1++ [tC (nt (aB rfl (aB rfl (aB rfl (aB rfl (cz (y:=ae [.int .i64 aa,.int .i64 0,.int .i8 cc] [.int .i64 0,.int .i64 0,.int .i8 0]) (aw h1)))))))]) (by kernel_rfl)).to (by (simp [wk,ax,h1];done))
 exact (hG (d:=(xD 0 0 0 src base aa 0 cc)) (E1++ [tC (nt (aB rfl (aB rfl (aB rfl (cz (y:=ae [.int .i8 base,.int .i64 aa,.int .i64 0,.int .i8 cc] [.int .i8 0,.int .i64 0,.int .i64 0,.int .i8 0]) (aw h0))))))]) (by kernel_rfl)).to (by (simp [wk,ax,h0];done))
theorem zT (op w dst src base aa ai cc:Int):aF Tryz.prog 98 ([xD op w dst src base aa ai cc,.int .i8 4]) (xD 0 0 0 src base aa 0 cc):=by
 let E1:EL:= [tF,tF,tF,tF,tT,tT,tT,tF,tF,.flat _ _ eC]
 by_cases h0:src=0
 ·subst h0
  by_cases h1:base=0
  ·subst h1
   by_cases h2:aa=0
   ·subst h2
    by_cases h3:cc=0
    ·subst h3
     exact (hG (d:=(xD 0 0 0 0 0 0 0 0)) (E1++ [tF]) (by kernel_rfl)).to (by (simp [wk,ax,];done))
    exact (hG (d:=(xD 0 0 0 0 0 0 0 cc)) (E1++ [tC (nt (aB rfl (aB rfl (aB rfl (aB rfl (aB rfl (aB rfl (aB rfl (cz (y:=true) (aw h3))))))))))]) (by kernel_rfl)).to (by (simp [wk,ax,h3];done))
   exact (hG (d:=(xD 0 0 0 0 0 aa 0 cc)) (E1++ [tC (nt (aB rfl (aB rfl (aB rfl (aB rfl (aB rfl (cz (y:=ae [.int .i64 0,.int .i8 cc] [.int .i64 0,.int .i8 0]) (aw h2))))))))]) (by kernel_rfl)).to (by (simp [wk,ax,h2];done))
  exact (hG (d:=(xD 0 0 0 0 base aa 0 cc)) (E1++ [tC (nt (aB rfl (aB rfl (aB rfl (aB rfl (cz (y:=ae [.int .i64 aa,.int .i64 0,.int .i8 cc] [.int .i64 0,.int .i64 0,.int .i8 0]) (aw h1)))))))]) (by kernel_rfl)).to (by (simp [wk,ax,h1];done))
 exact (hG (d:=(xD 0 0 0 src base aa 0 cc)) (E1++ [tC (nt (aB rfl (aB rfl (aB rfl (cz (y:=ae [.int .i8 base,.int .i64 aa,.int .i64 0,.int .i8 cc] [.int .i8 0,.int .i64 0,.int .i64 0,.int .i8 0]) (aw h0))))))]) (by kernel_rfl)).to (by (simp [wk,ax,h0];done))
theorem zS (op w dst src base aa ai cc:Int):aF Tryz.prog 98 ([xD op w dst src base aa ai cc,.int .i8 5]) (xD 0 0 0 src base aa ai cc):=by
 let E1:EL:= [tF,tF,tF,tF,tF,tT,tT,tT,tF,tF,.flat _ _ eC]
 by_cases h0:src=0
 ·subst h0
  by_cases h1:base=0
  ·subst h1
   by_cases h2:aa=0
   ·subst h2
    by_cases h3:ai=0
    ·subst h3
     by_cases h4:cc=0
     ·subst h4
      exact (hG (d:=(xD 0 0 0 0 0 0 0 0)) (E1++ [tF]) (by kernel_rfl)).to (by (simp [wk,ax,];done))
     exact (hG (d:=(xD 0 0 0 0 0 0 0 cc)) (E1++ [tC (nt (aB rfl (aB rfl (aB rfl (aB rfl (aB rfl (aB rfl (aB rfl (cz (y:=true) (aw h4))))))))))]) (by kernel_rfl)).to (by (simp [wk,ax,h4];done))
    exact (hG (d:=(xD 0 0 0 0 0 0 ai cc)) (E1++ [tC (nt (aB rfl (aB rfl (aB rfl (aB rfl (aB rfl (aB rfl (cz (y:=ae [.int .i8 cc] [.int .i8 0]) (aw h3)))))))))]) (by kernel_rfl)).to (by (simp [wk,ax,h3];done))
   exact (hG (d:=(xD 0 0 0 0 0 aa ai cc)) (E1++ [tC (nt (aB rfl (aB rfl (aB rfl (aB rfl (aB rfl (cz (y:=ae [.int .i64 ai,.int .i8 cc] [.int .i64 0,.int .i8 0]) (aw h2))))))))]) (by kernel_rfl)).to (by (simp [wk,ax,h2];done))
  exact (hG (d:=(xD 0 0 0 0 base aa ai cc)) (E1++ [tC (nt (aB rfl (aB rfl (aB rfl (aB rfl (cz (y:=ae [.int .i64 aa,.int .i64 ai,.int .i8 cc] [.int .i64 0,.int .i64 0,.int .i8 0]) (aw h1)))))))]) (by kernel_rfl)).to (by (simp [wk,ax,h1];done))
 exact (hG (d:=(xD 0 0 0 src base aa ai cc)) (E1++ [tC (nt (aB rfl (aB rfl (aB rfl (cz (y:=ae [.int .i8 base,.int .i64 aa,.int .i64 ai,.int .i8 cc] [.int .i8 0,.int .i64 0,.int .i64 0,.int .i8 0]) (aw h0))))))]) (by kernel_rfl)).to (by (simp [wk,ax,h0];done))
theorem zR (op w dst src base aa ai cc:Int):aF Tryz.prog 98 ([xD op w dst src base aa ai cc,.int .i8 6]) (xD 0 0 0 0 base aa ai 0):=by
 let E1:EL:= [tF,tF,tT,tF,tF,tT,tT,.flat _ _ eC]
 by_cases h0:base=0
 ·subst h0
  by_cases h1:aa=0
  ·subst h1
   by_cases h2:ai=0
   ·subst h2
    exact (hG (d:=(xD 0 0 0 0 0 0 0 0)) (E1++ [tF]) (by kernel_rfl)).to (by (simp [wk,ax,];done))
   exact (hG (d:=(xD 0 0 0 0 0 0 ai 0)) (E1++ [tC (nt (aB rfl (aB rfl (aB rfl (aB rfl (aB rfl (aB rfl (cz (y:=true) (aw h2)))))))))]) (by kernel_rfl)).to (by (simp [wk,ax,h2];done))
  exact (hG (d:=(xD 0 0 0 0 0 aa ai 0)) (E1++ [tC (nt (aB rfl (aB rfl (aB rfl (aB rfl (aB rfl (cz (y:=ae [.int .i64 ai,.int .i8 0] [.int .i64 0,.int .i8 0]) (aw h1))))))))]) (by kernel_rfl)).to (by (simp [wk,ax,h1];done))
 exact (hG (d:=(xD 0 0 0 0 base aa ai 0)) (E1++ [tC (nt (aB rfl (aB rfl (aB rfl (aB rfl (cz (y:=ae [.int .i64 aa,.int .i64 ai,.int .i8 0] [.int .i64 0,.int .i64 0,.int .i8 0]) (aw h0)))))))]) (by kernel_rfl)).to (by (simp [wk,ax,h0];done))
theorem zQ (op w dst src base aa ai cc:Int):aF Tryz.prog 98 ([xD op w dst src base aa ai cc,.int .i8 7]) (xD 0 0 0 src 0 0 ai cc):=by
 let E1:EL:= [tF,tF,tF,tF,tF,tF,tT,tT,tT,tF,tF,.flat _ _ eC]
 by_cases h0:src=0
 ·subst h0
  by_cases h1:ai=0
  ·subst h1
   by_cases h2:cc=0
   ·subst h2
    exact (hG (d:=(xD 0 0 0 0 0 0 0 0)) (E1++ [tF]) (by kernel_rfl)).to (by (simp [wk,ax,];done))
   exact (hG (d:=(xD 0 0 0 0 0 0 0 cc)) (E1++ [tC (nt (aB rfl (aB rfl (aB rfl (aB rfl (aB rfl (aB rfl (aB rfl (cz (y:=true) (aw h2))))))))))]) (by kernel_rfl)).to (by (simp [wk,ax,h2];done))
  exact (hG (d:=(xD 0 0 0 0 0 0 ai cc)) (E1++ [tC (nt (aB rfl (aB rfl (aB rfl (aB rfl (aB rfl (aB rfl (cz (y:=ae [.int .i8 cc] [.int .i8 0]) (aw h1)))))))))]) (by kernel_rfl)).to (by (simp [wk,ax,h1];done))
 exact (hG (d:=(xD 0 0 0 src 0 0 ai cc)) (E1++ [tC (nt (aB rfl (aB rfl (aB rfl (cz (y:=ae [.int .i8 0,.int .i64 0,.int .i64 ai,.int .i8 cc] [.int .i8 0,.int .i64 0,.int .i64 0,.int .i8 0]) (aw h0))))))]) (by kernel_rfl)).to (by (simp [wk,ax,h0];done))
theorem zP (op w dst src base aa ai cc:Int):aF Tryz.prog 98 ([xD op w dst src base aa ai cc,.int .i8 8]) (xD 0 0 dst 0 0 0 ai cc):=by
 let E1:EL:= [tF,tF,tF,tF,tF,tF,tF,tT,tT,tT,tF,tF,.flat _ _ eC]
 by_cases h0:dst=0
 ·subst h0
  by_cases h1:ai=0
  ·subst h1
   by_cases h2:cc=0
   ·subst h2
    exact (hG (d:=(xD 0 0 0 0 0 0 0 0)) (E1++ [tF]) (by kernel_rfl)).to (by (simp [wk,ax,];done))
   exact (hG (d:=(xD 0 0 0 0 0 0 0 cc)) (E1++ [tC (nt (aB rfl (aB rfl (aB rfl (aB rfl (aB rfl (aB rfl (aB rfl (cz (y:=true) (aw h2))))))))))]) (by kernel_rfl)).to (by (simp [wk,ax,h2];done))
  exact (hG (d:=(xD 0 0 0 0 0 0 ai cc)) (E1++ [tC (nt (aB rfl (aB rfl (aB rfl (aB rfl (aB rfl (aB rfl (cz (y:=ae [.int .i8 cc] [.int .i8 0]) (aw h1)))))))))]) (by kernel_rfl)).to (by (simp [wk,ax,h1];done))
 exact (hG (d:=(xD 0 0 dst 0 0 0 ai cc)) (E1++ [tC (nt (aB rfl (aB rfl (cz (y:=ae [.int .i8 0,.int .i8 0,.int .i64 0,.int .i64 ai,.int .i8 cc] [.int .i8 0,.int .i8 0,.int .i64 0,.int .i64 0,.int .i8 0]) (aw h0)))))]) (by kernel_rfl)).to (by (simp [wk,ax,h0];done))
theorem zO (op w dst src base aa ai cc:Int):aF Tryz.prog 98 ([xD op w dst src base aa ai cc,.int .i8 9]) (xD 0 0 dst src base aa 0 cc):=by
 let E1:EL:=(Sx 8 tF++ [tT,tT,tT,tT,tF,tF,.flat _ _ eC])
 by_cases h0:dst=0
 ·subst h0
  by_cases h1:src=0
  ·subst h1
   by_cases h2:base=0
   ·subst h2
    by_cases h3:aa=0
    ·subst h3
     by_cases h4:cc=0
     ·subst h4
      exact (hG (d:=(xD 0 0 0 0 0 0 0 0)) (E1++ [tF]) (by kernel_rfl)).to (by (simp [wk,ax,];done))
     exact (hG (d:=(xD 0 0 0 0 0 0 0 cc)) (E1++ [tC (nt (aB rfl (aB rfl (aB rfl (aB rfl (aB rfl (aB rfl (aB rfl (cz (y:=true) (aw h4))))))))))]) (by kernel_rfl)).to (by (simp [wk,ax,h4];done))
    exact (hG (d:=(xD 0 0 0 0 0 aa 0 cc)) (E1++ [tC (nt (aB rfl (aB rfl (aB rfl (aB rfl (aB rfl (cz (y:=ae [.int .i64 0,.int .i8 cc] [.int .i64 0,.int .i8 0]) (aw h3))))))))]) (by kernel_rfl)).to (by (simp [wk,ax,h3];done))
   exact (hG (d:=(xD 0 0 0 0 base aa 0 cc)) (E1++ [tC (nt (aB rfl (aB rfl (aB rfl (aB rfl (cz (y:=ae [.int .i64 aa,.int .i64 0,.int .i8 cc] [.int .i64 0,.int .i64 0,.int .i8 0]) (aw h2)))))))]) (by kernel_rfl)).to (by (simp [wk,ax,h2];done))
  exact (hG (d:=(xD 0 0 0 src base aa 0 cc)) (E1++ [tC (nt (aB rfl (aB rfl (aB rfl (cz (y:=ae [.int .i8 base,.int .i64 aa,.int .i64 0,.int .i8 cc] [.int .i8 0,.int .i64 0,.int .i64 0,.int .i8 0]) (aw h1))))))]) (by kernel_rfl)).to (by (simp [wk,ax,h1];done))
 exact (hG (d:=(xD 0 0 dst src base aa 0 cc)) (E1++ [tC (nt (aB rfl (aB rfl (cz (y:=ae [.int .i8 src,.int .i8 base,.int .i64 aa,.int .i64 0,.int .i8 cc] [.int .i8 0,.int .i8 0,.int .i64 0,.int .i64 0,.int .i8 0]) (aw h0)))))]) (by kernel_rfl)).to (by (simp [wk,ax,h0];done))
theorem xE (op w dst src base aa ai cc:Int):aF Tryz.prog 98 ([xD op w dst src base aa ai cc,.int .i8 10]) (xD 0 0 dst src base aa 0 0):=by
 let E1:EL:=(Sx 9 tF++ [tT,tT,tT,tF,tT,.flat _ _ eC])
 by_cases h0:dst=0
 ·subst h0
  by_cases h1:src=0
  ·subst h1
   by_cases h2:base=0
   ·subst h2
    by_cases h3:aa=0
    ·subst h3
     exact (hG (d:=(xD 0 0 0 0 0 0 0 0)) (E1++ [tF]) (by kernel_rfl)).to (by (simp [wk,ax,];done))
    exact (hG (d:=(xD 0 0 0 0 0 aa 0 0)) (E1++ [tC (nt (aB rfl (aB rfl (aB rfl (aB rfl (aB rfl (cz (y:=true) (aw h3))))))))]) (by kernel_rfl)).to (by (simp [wk,ax,h3];done))
   exact (hG (d:=(xD 0 0 0 0 base aa 0 0)) (E1++ [tC (nt (aB rfl (aB rfl (aB rfl (aB rfl (cz (y:=ae [.int .i64 aa,.int .i64 0,.int .i8 0] [.int .i64 0,.int .i64 0,.int .i8 0]) (aw h2)))))))]) (by kernel_rfl)).to (by (simp [wk,ax,h2];done))
  exact (hG (d:=(xD 0 0 0 src base aa 0 0)) (E1++ [tC (nt (aB rfl (aB rfl (aB rfl (cz (y:=ae [.int .i8 base,.int .i64 aa,.int .i64 0,.int .i8 0] [.int .i8 0,.int .i64 0,.int .i64 0,.int .i8 0]) (aw h1))))))]) (by kernel_rfl)).to (by (simp [wk,ax,h1];done))
 exact (hG (d:=(xD 0 0 dst src base aa 0 0)) (E1++ [tC (nt (aB rfl (aB rfl (cz (y:=ae [.int .i8 src,.int .i8 base,.int .i64 aa,.int .i64 0,.int .i8 0] [.int .i8 0,.int .i8 0,.int .i64 0,.int .i64 0,.int .i8 0]) (aw h0)))))]) (by kernel_rfl)).to (by (simp [wk,ax,h0];done))
theorem xC (op w dst src base aa ai cc:Int):aF Tryz.prog 98 ([xD op w dst src base aa ai cc,.int .i8 11]) (xD 0 w dst src base aa ai cc):=by
 let E1:EL:=(Sx 10 tF++ [tT,tT,tF,tF,.flat _ _ eC])
 by_cases h0:w=0
 ·subst h0
  by_cases h1:dst=0
  ·subst h1
   by_cases h2:src=0
   ·subst h2
    by_cases h3:base=0
    ·subst h3
     by_cases h4:aa=0
     ·subst h4
      by_cases h5:ai=0
      ·subst h5
       by_cases h6:cc=0
       ·subst h6
        exact (hG (d:=(xD 0 0 0 0 0 0 0 0)) (E1++ [tF]) (by kernel_rfl)).to (by (simp [wk,ax,];done))
       exact (hG (d:=(xD 0 0 0 0 0 0 0 cc)) (E1++ [tC (nt (aB rfl (aB rfl (aB rfl (aB rfl (aB rfl (aB rfl (aB rfl (cz (y:=true) (aw h6))))))))))]) (by kernel_rfl)).to (by (simp [wk,ax,h6];done))
      exact (hG (d:=(xD 0 0 0 0 0 0 ai cc)) (E1++ [tC (nt (aB rfl (aB rfl (aB rfl (aB rfl (aB rfl (aB rfl (cz (y:=ae [.int .i8 cc] [.int .i8 0]) (aw h5)))))))))]) (by kernel_rfl)).to (by (simp [wk,ax,h5];done))
     exact (hG (d:=(xD 0 0 0 0 0 aa ai cc)) (E1++ [tC (nt (aB rfl (aB rfl (aB rfl (aB rfl (aB rfl (cz (y:=ae [.int .i64 ai,.int .i8 cc] [.int .i64 0,.int .i8 0]) (aw h4))))))))]) (by kernel_rfl)).to (by (simp [wk,ax,h4];done))
    exact (hG (d:=(xD 0 0 0 0 base aa ai cc)) (E1++ [tC (nt (aB rfl (aB rfl (aB rfl (aB rfl (cz (y:=ae [.int .i64 aa,.int .i64 ai,.int .i8 cc] [.int .i64 0,.int .i64 0,.int .i8 0]) (aw h3)))))))]) (by kernel_rfl)).to (by (simp [wk,ax,h3];done))
   exact (hG (d:=(xD 0 0 0 src base aa ai cc)) (E1++ [tC (nt (aB rfl (aB rfl (aB rfl (cz (y:=ae [.int .i8 base,.int .i64 aa,.int .i64 ai,.int .i8 cc] [.int .i8 0,.int .i64 0,.int .i64 0,.int .i8 0]) (aw h2))))))]) (by kernel_rfl)).to (by (simp [wk,ax,h2];done))
  exact (hG (d:=(xD 0 0 dst src base aa ai cc)) (E1++ [tC (nt (aB rfl (aB rfl (cz (y:=ae [.int .i8 src,.int .i8 base,.int .i64 aa,.int .i64 ai,.int .i8 cc] [.int .i8 0,.int .i8 0,.int .i64 0,.int .i64 0,.int .i8 0]) (aw h1)))))]) (by kernel_rfl)).to (by (simp [wk,ax,h1];done))
 exact (hG (d:=(xD 0 w dst src base aa ai cc)) (E1++ [tC (nt (aB rfl (cz (y:=ae [.int .i8 dst,.int .i8 src,.int .i8 base,.int .i64 aa,.int .i64 ai,.int .i8 cc] [.int .i8 0,.int .i8 0,.int .i8 0,.int .i64 0,.int .i64 0,.int .i8 0]) (aw h0))))]) (by kernel_rfl)).to (by (simp [wk,ax,h0];done))
theorem mA {op:Int} (h:op<0∨32≤op):aA op=0∧bp op=0∧cI op=0:=by
 refine ⟨?_,?_,?_⟩
 ·unfold aA;repeat (rw [if_neg (by omega)])
 ·unfold bp;repeat (rw [if_neg (by omega)])
 ·unfold cI;repeat (rw [if_neg (by omega)])
theorem cj (op:Int) (ho:op≤127):aF Tryz.prog 73 [.int .i8 op] (.aC [.agg [.int .i8 (aA op),.int .u8 (bp op),.int .i8 (cI op)],.bool (decide (0≤op∧op≤31))]):=by
 by_cases h1:op<0
 ·obtain ⟨e1,e2,e3⟩:=mA (.inl h1)
  rw [e1,e2,e3,decide_eq_false (by omega)]
  exact Cl op h1
 ·by_cases h2:32≤op
  ·obtain ⟨e1,e2,e3⟩:=mA (.inr h2)
   rw [e1,e2,e3,decide_eq_false (by omega)]
   exact yv op h2 ho
  ·rcases (by omega:op=0∨op=1∨op=2∨op=3∨op=4∨op=5∨op=6∨op=7∨op=8∨op=9∨op=10∨op=11∨op=12∨op=13∨op=14∨op=15∨op=16∨op=17∨op=18∨op=19∨op=20∨op=21∨op=22∨op=23∨op=24∨op=25∨op=26∨op=27∨op=28∨op=29∨op=30∨op=31) with rfl|rfl|rfl|rfl|rfl|rfl|rfl|rfl|rfl|rfl|rfl|rfl|rfl|rfl|rfl|rfl|rfl|rfl|rfl|rfl|rfl|rfl|rfl|rfl|rfl|rfl|rfl|rfl|rfl|rfl|rfl|rfl
   ·exact GR
   ·exact GQ
   ·exact GP
   ·exact GO
   ·exact GN
   ·exact GM
   ·exact GL
   ·exact GK
   ·exact GJ
   ·exact GI
   ·exact EP
   ·exact EO
   ·exact EN
   ·exact EM
   ·exact EK
   ·exact EJ
   ·exact EI
   ·exact EH
   ·exact EG
   ·exact EF
   ·exact EE
   ·exact ED
   ·exact EC
   ·exact EB
   ·exact EA
   ·exact Ez
   ·exact Ey
   ·exact Ew
   ·exact Eu
   ·exact Et
   ·exact Es
   ·exact Er
theorem Du (op w dst src base aa ai cc sh:Int) (h:(sh==1)=true):aF Tryz.prog 98 [xD op w dst src base aa ai cc,.int .i8 sh] (xD 0 0 0 0 base aa ai cc):=by
 obtain rfl:=eq_of_beq h
 exact zW op w dst src base aa ai cc
theorem Dt (op w dst src base aa ai cc sh:Int) (h:(sh==2)=true):aF Tryz.prog 98 [xD op w dst src base aa ai cc,.int .i8 sh] (xD 0 0 0 0 base aa ai cc):=by
 obtain rfl:=eq_of_beq h
 exact zV op w dst src base aa ai cc
theorem Ds (op w dst src base aa ai cc sh:Int) (h:(sh==3)=true):aF Tryz.prog 98 [xD op w dst src base aa ai cc,.int .i8 sh] (xD 0 0 0 src base aa 0 cc):=by
 obtain rfl:=eq_of_beq h
 exact zU op w dst src base aa ai cc
theorem Dr (op w dst src base aa ai cc sh:Int) (h:(sh==4)=true):aF Tryz.prog 98 [xD op w dst src base aa ai cc,.int .i8 sh] (xD 0 0 0 src base aa 0 cc):=by
 obtain rfl:=eq_of_beq h
 exact zT op w dst src base aa ai cc
theorem Dq (op w dst src base aa ai cc sh:Int) (h:(sh==5)=true):aF Tryz.prog 98 [xD op w dst src base aa ai cc,.int .i8 sh] (xD 0 0 0 src base aa ai cc):=by
 obtain rfl:=eq_of_beq h
 exact zS op w dst src base aa ai cc
theorem Dp (op w dst src base aa ai cc sh:Int) (h:(sh==6)=true):aF Tryz.prog 98 [xD op w dst src base aa ai cc,.int .i8 sh] (xD 0 0 0 0 base aa ai 0):=by
 obtain rfl:=eq_of_beq h
 exact zR op w dst src base aa ai cc
theorem Dn (op w dst src base aa ai cc sh:Int) (h:(sh==7)=true):aF Tryz.prog 98 [xD op w dst src base aa ai cc,.int .i8 sh] (xD 0 0 0 src 0 0 ai cc):=by
 obtain rfl:=eq_of_beq h
 exact zQ op w dst src base aa ai cc
theorem Dm (op w dst src base aa ai cc sh:Int) (h:(sh==8)=true):aF Tryz.prog 98 [xD op w dst src base aa ai cc,.int .i8 sh] (xD 0 0 dst 0 0 0 ai cc):=by
 obtain rfl:=eq_of_beq h
 exact zP op w dst src base aa ai cc
theorem Dl (op w dst src base aa ai cc sh:Int) (h:(sh==9)=true):aF Tryz.prog 98 [xD op w dst src base aa ai cc,.int .i8 sh] (xD 0 0 dst src base aa 0 cc):=by
 obtain rfl:=eq_of_beq h
 exact zO op w dst src base aa ai cc
theorem zN (op w dst src base aa ai cc sh:Int) (h:(sh==10)=true):aF Tryz.prog 98 [xD op w dst src base aa ai cc,.int .i8 sh] (xD 0 0 dst src base aa 0 0):=by
 obtain rfl:=eq_of_beq h
 exact xE op w dst src base aa ai cc
theorem zM (op w dst src base aa ai cc sh:Int) (h:(sh==11)=true):aF Tryz.prog 98 [xD op w dst src base aa ai cc,.int .i8 sh] (xD 0 w dst src base aa ai cc):=by
 obtain rfl:=eq_of_beq h
 exact xC op w dst src base aa ai cc
theorem sM:type_of%(S7 @ct.eq_1 (S7 @bA.eq_1 (S7 @iw.eq_1 (S7 @bj.eq_1 (S7 @bu.eq_1 (S7 @oU.eq_1 @fE.eq_1)))))):=(S7 @ct.eq_1 (S7 @bA.eq_1 (S7 @iw.eq_1 (S7 @bj.eq_1 (S7 @bu.eq_1 (S7 @oU.eq_1 @fE.eq_1))))))
theorem CE (op w dst src base aa ai cc:Int) (ho:op≤127) (h:(aA op==0)=true) (L1:decide (0≤op∧op≤31)=false):aF Tryz.prog 72 ([xD op w dst src base aa ai cc]) (.bool (ct op w dst src base aa ai cc)):=by
 have c0:= @cj op ho
 rw [show (aA op)=0 from (eq_of_beq h)] at c0
 generalize g2:bp op=r1 at c0
 generalize g4:cI op=r3 at c0
 exact (dj (d:= .bool false) ([.ret _ _ _ c0]++Sx 6 (tC (eF (nt L1)))++ [tC (nt L1),tF,tF,tF,tF,tT,tF,tF,tF,tF,tT,tF,tF,tF,tF,tT,tF,tF,tF,tF,tT,tF,tF,tF,tF,tT,tT]) (by kernel_rfl)).to (by (try simp only [cP,wk,ax,aO,ae,ak,sM] at*);(simp [wk,ax,aO,ae,ak,sM, *];done))
theorem CD (op w dst src base aa ai cc:Int) (ho:op≤127) (h:(aA op==1)=true) (L1:decide (0≤op∧op≤31)=true):aF Tryz.prog 72 ([xD op w dst src base aa ai cc]) (.bool (ct op w dst src base aa ai cc)):=by
 have c0:= @cj op ho
 rw [show (aA op)=1 from (eq_of_beq h)] at c0
 generalize g2:bp op=r1 at c0
 generalize g4:cI op=r3 at c0
 have c5:= @Du op w dst src base aa ai cc 1 (rfl:true=true)
 let E1:EL:=([.ret _ _ _ c0]++Sx 4 (tC (eF (nt L1)))++ [.ret _ _ _ c5,tC (eF (nt L1)),tC (eF (nt L1)),.flat _ _ eC,tC (nt L1)])
 rcases ef (ae [.int .i8 0,.int .i8 0,.int .i8 0,.int .i8 0,.int .i8 base,.int .i64 aa,.int .i64 ai,.int .i8 cc] [.int .i8 0,.int .i8 0,.int .i8 0,.int .i8 0,.int .i8 0,.int .i64 0,.int .i64 0,.int .i8 0]) with h6|h6
 ·have c7:= @cW dst
  generalize g9:bA dst=r8 at c7
  let E2:EL:=E1++Sx 3 (tC (eF (nt h6)))++ [.ret _ _ _ c7,tC (eF (nt h6)),tC (nt h6)]
  cases r8
  ·exact (dj (d:= .bool false) (E2++ [tF,tF,tF,tF,tT,tF,tF,tF,tF,tT,tF,tF,tF,tF,tT,tF,tF,tF,tF,tT,tT]) (by kernel_rfl)).to (by clear E1 E2;(try simp only [cP,wk,ax,aO,ae,ak,sM] at*);(simp [wk,ax,aO,ae,ak,sM, *];done))
  have LZ:= @cW src
  generalize g12:bA src=Mf at LZ
  let E3:EL:=E2++ [tT,tT,tT,.ret _ _ _ LZ,tT,tF]
  cases Mf
  ·exact (dj (d:= .bool false) (E3++ [tF,tF,tF,tF,tT,tF,tF,tF,tF,tT,tF,tF,tF,tF,tT,tT]) (by kernel_rfl)).to (by clear E1 E2 E3;(try simp only [cP,wk,ax,aO,ae,ak,sM] at*);(simp [wk,ax,aO,ae,ak,sM, *];done))
  have MB:= @cW base
  generalize g15:bA base=Ns at MB
  let E4:EL:=E3++ [tT,tT,tT,.ret _ _ _ MB,tT,tF]
  cases Ns
  ·exact (dj (d:= .bool false) (E4++ [tF,tF,tF,tF,tT,tF,tF,tF,tF,tT,tT]) (by kernel_rfl)).to (by clear E1 E2 E3 E4;(try simp only [cP,wk,ax,aO,ae,ak,sM] at*);(simp [wk,ax,aO,ae,ak,sM, *];done))
  have MS:= @br aa (-2147483648) 2147483647
  let E5:EL:=E4++ [tT,tT,tT,.ret _ _ _ MS,tT,tF]
  rcases ef (decide (aa<(-2147483648))) with h17|h17
  ·exact (dj (d:= .bool false) (E5++Sx 4 (tC (eF (nt (cz (y:=decide (aa≤2147483647)) (bB (-2147483648) h17)))))++ [tC (nt (cz (y:=decide (aa≤2147483647)) (bB (-2147483648) h17))),tT]) (by kernel_rfl)).to (by clear E1 E2 E3 E4 E5;(try simp only [cP,wk,ax,aO,ae,ak,sM] at*);(simp [wk,ax,aO,ae,ak,sM, *];omega))
  rcases ef (decide (aa<2147483648)) with h18|h18
  ·have M9:= @br ai (-2147483648) 2147483647
   let E6:EL:=E5++Sx 3 (tC (eF (nt (aB (bB (-2147483648) h17) (dP 2147483647 h18)))))++ [.ret _ _ _ M9,tC (eF (nt (aB (bB (-2147483648) h17) (dP 2147483647 h18)))),tC (nt (aB (bB (-2147483648) h17) (dP 2147483647 h18)))]
   rcases ef (decide (ai<(-2147483648))) with h20|h20
   ·exact (dj (d:= .bool false) (E6++ [tC (nt (cz (y:=decide (ai≤2147483647)) (bB (-2147483648) h20)))]) (by kernel_rfl)).to (by clear E1 E2 E3 E4 E5 E6;(try simp only [cP,wk,ax,aO,ae,ak,sM] at*);(simp [wk,ax,aO,ae,ak,sM, *];omega))
   rcases ef (decide (ai<2147483648)) with h21|h21
   ·let E7:EL:=E6++ [tC (nt (aB (bB (-2147483648) h20) (dP 2147483647 h21)))]
    by_cases h22:w=32
    ·subst h22
     exact (dj (d:= .bool true) (E7++ [tF,tF,tF,tT,tF,tF,tF,tF,tF,tT,tT,tT]) (by kernel_rfl)).to (by clear E1 E2 E3 E4 E5 E6 E7;(try simp only [cP,wk,ax,aO,ae,ak,sM] at*);(rw [SM];simp [wk,ax,aO,ae,ak,sM, *];grind))
    let E8:EL:=E7++Sx 3 (tC (eF (aw h22)))++ [tC (aw h22)]++Sx 4 (tC (eF (aw h22)))
    by_cases h23:w=8
    ·subst h23
     have OP:= @br ai (-128) 127
     exact (dj (d:= .bool false) (E8++ [tT,tT,tT,.ret _ _ _ OP,tT,tT,tF,tT,tT]) (by kernel_rfl)).to (by clear E1 E2 E3 E4 E5 E6 E7 E8;(try simp only [cP,wk,ax,aO,ae,ak,sM] at*);(simp [wk,ax,aO,ae,ak,sM, *];done))
    exact (dj (d:= .bool (w==64)) (E8++Sx 3 (tC (eT (aw h23)))++ [tC (eF (aw h22)),tC (aw h23),tC (aw h22),tT,tT]) (by kernel_rfl)).to (by clear E1 E2 E3 E4 E5 E6 E7 E8;(try simp only [cP,wk,ax,aO,ae,ak,sM] at*);(rw [SM];simp [wk,ax,aO,ae,ak,sM, *];grind))
   exact (dj (d:= .bool false) (E6++ [tC (nt (aB (bB (-2147483648) h20) (dP 2147483647 h21)))]) (by kernel_rfl)).to (by clear E1 E2 E3 E4 E5 E6;(try simp only [cP,wk,ax,aO,ae,ak,sM] at*);(simp [wk,ax,aO,ae,ak,sM, *];omega))
  exact (dj (d:= .bool false) (E5++Sx 4 (tC (eF (nt (aB (bB (-2147483648) h17) (dP 2147483647 h18)))))++ [tC (nt (aB (bB (-2147483648) h17) (dP 2147483647 h18))),tT]) (by kernel_rfl)).to (by clear E1 E2 E3 E4 E5;(try simp only [cP,wk,ax,aO,ae,ak,sM] at*);(simp [wk,ax,aO,ae,ak,sM, *];omega))
 exact (dj (d:= .bool false) (E1++Sx 4 (tC (eF (nt h6)))++ [tC (nt h6),tF,tF,tF,tF,tT,tF,tF,tF,tF,tT,tF,tF,tF,tF,tT,tF,tF,tF,tF,tT,tT]) (by kernel_rfl)).to (by clear E1;(try simp only [cP,wk,ax,aO,ae,ak,sM] at*);(rw [SM];simp [wk,ax,aO,ae,ak,sM, *];grind))
theorem CC (op w dst src base aa ai cc:Int) (ho:op≤127) (h:(aA op==2)=true) (L1:decide (0≤op∧op≤31)=true):aF Tryz.prog 72 ([xD op w dst src base aa ai cc]) (.bool (ct op w dst src base aa ai cc)):=by
 have c0:= @cj op ho
 rw [show (aA op)=2 from (eq_of_beq h)] at c0
 generalize g2:bp op=r1 at c0
 generalize g4:cI op=r3 at c0
 have c5:= @Dt op w dst src base aa ai cc 2 (rfl:true=true)
 let E1:EL:=([.ret _ _ _ c0]++Sx 4 (tC (eF (nt L1)))++ [.ret _ _ _ c5,tC (eF (nt L1)),tC (eF (nt L1)),.flat _ _ eC,tC (nt L1)])
 rcases ef (ae [.int .i8 0,.int .i8 0,.int .i8 0,.int .i8 0,.int .i8 base,.int .i64 aa,.int .i64 ai,.int .i8 cc] [.int .i8 0,.int .i8 0,.int .i8 0,.int .i8 0,.int .i8 0,.int .i64 0,.int .i64 0,.int .i8 0]) with h6|h6
 ·have c7:= @cW dst
  generalize g9:bA dst=r8 at c7
  let E2:EL:=E1++Sx 3 (tC (eF (nt h6)))++ [.ret _ _ _ c7,tC (eF (nt h6)),tC (nt h6)]
  cases r8
  ·exact (dj (d:= .bool false) (E2++ [tF,tF,tF,tF,tT,tF,tF,tF,tF,tT,tF,tF,tF,tF,tT,tF,tF,tF,tF,tT,tT]) (by kernel_rfl)).to (by clear E1 E2;(try simp only [cP,wk,ax,aO,ae,ak,sM] at*);(simp [wk,ax,aO,ae,ak,sM, *];done))
  have LZ:= @cW src
  generalize g12:bA src=Mf at LZ
  let E3:EL:=E2++ [tT,tT,tT,.ret _ _ _ LZ,tT,tF]
  cases Mf
  ·exact (dj (d:= .bool false) (E3++ [tF,tF,tF,tF,tT,tF,tF,tF,tF,tT,tF,tF,tF,tF,tT,tT]) (by kernel_rfl)).to (by clear E1 E2 E3;(try simp only [cP,wk,ax,aO,ae,ak,sM] at*);(simp [wk,ax,aO,ae,ak,sM, *];done))
  have MB:= @cW base
  generalize g15:bA base=Ns at MB
  let E4:EL:=E3++ [tT,tT,tT,.ret _ _ _ MB,tT,tF]
  cases Ns
  ·exact (dj (d:= .bool false) (E4++ [tF,tF,tF,tF,tT,tF,tF,tF,tF,tT,tT]) (by kernel_rfl)).to (by clear E1 E2 E3 E4;(try simp only [cP,wk,ax,aO,ae,ak,sM] at*);(simp [wk,ax,aO,ae,ak,sM, *];done))
  have MS:= @br aa (-2147483648) 2147483647
  let E5:EL:=E4++ [tT,tT,tT,.ret _ _ _ MS,tT,tF]
  rcases ef (decide (aa<(-2147483648))) with h17|h17
  ·exact (dj (d:= .bool false) (E5++Sx 4 (tC (eF (nt (cz (y:=decide (aa≤2147483647)) (bB (-2147483648) h17)))))++ [tC (nt (cz (y:=decide (aa≤2147483647)) (bB (-2147483648) h17))),tT]) (by kernel_rfl)).to (by clear E1 E2 E3 E4 E5;(try simp only [cP,wk,ax,aO,ae,ak,sM] at*);(simp [wk,ax,aO,ae,ak,sM, *];omega))
  rcases ef (decide (aa<2147483648)) with h18|h18
  ·have M9:= @br ai (-2147483648) 2147483647
   let E6:EL:=E5++Sx 3 (tC (eF (nt (aB (bB (-2147483648) h17) (dP 2147483647 h18)))))++ [.ret _ _ _ M9,tC (eF (nt (aB (bB (-2147483648) h17) (dP 2147483647 h18)))),tC (nt (aB (bB (-2147483648) h17) (dP 2147483647 h18)))]
   rcases ef (decide (ai<(-2147483648))) with h20|h20
   ·exact (dj (d:= .bool false) (E6++ [tC (nt (cz (y:=decide (ai≤2147483647)) (bB (-2147483648) h20)))]) (by kernel_rfl)).to (by clear E1 E2 E3 E4 E5 E6;(try simp only [cP,wk,ax,aO,ae,ak,sM] at*);(simp [wk,ax,aO,ae,ak,sM, *];omega))
   rcases ef (decide (ai<2147483648)) with h21|h21
   ·let E7:EL:=E6++ [tC (nt (aB (bB (-2147483648) h20) (dP 2147483647 h21)))]
    by_cases h22:w=32
    ·subst h22
     exact (dj (d:= .bool true) (E7++ [tF,tF,tF,tT,tF,tF,tF,tF,tF,tT,tF,tT,tT]) (by kernel_rfl)).to (by clear E1 E2 E3 E4 E5 E6 E7;(try simp only [cP,wk,ax,aO,ae,ak,sM] at*);(rw [SM];simp [wk,ax,aO,ae,ak,sM, *];grind))
    let E8:EL:=E7++Sx 3 (tC (eF (aw h22)))++ [tC (aw h22)]++Sx 4 (tC (eF (aw h22)))
    by_cases h23:w=8
    ·subst h23
     have OP:= @br ai (-128) 127
     exact (dj (d:= .bool false) (E8++ [tT,tT,tT,.ret _ _ _ OP,tT,tT,tF,tF,tT,tT]) (by kernel_rfl)).to (by clear E1 E2 E3 E4 E5 E6 E7 E8;(try simp only [cP,wk,ax,aO,ae,ak,sM] at*);(simp [wk,ax,aO,ae,ak,sM, *];done))
    exact (dj (d:= .bool (w==64)) (E8++Sx 3 (tC (eT (aw h23)))++ [tC (eF (aw h22)),tC (aw h23),tC (aw h22),tF,tT,tT]) (by kernel_rfl)).to (by clear E1 E2 E3 E4 E5 E6 E7 E8;(try simp only [cP,wk,ax,aO,ae,ak,sM] at*);(rw [SM];simp [wk,ax,aO,ae,ak,sM, *];grind))
   exact (dj (d:= .bool false) (E6++ [tC (nt (aB (bB (-2147483648) h20) (dP 2147483647 h21)))]) (by kernel_rfl)).to (by clear E1 E2 E3 E4 E5 E6;(try simp only [cP,wk,ax,aO,ae,ak,sM] at*);(simp [wk,ax,aO,ae,ak,sM, *];omega))
  exact (dj (d:= .bool false) (E5++Sx 4 (tC (eF (nt (aB (bB (-2147483648) h17) (dP 2147483647 h18)))))++ [tC (nt (aB (bB (-2147483648) h17) (dP 2147483647 h18))),tT]) (by kernel_rfl)).to (by clear E1 E2 E3 E4 E5;(try simp only [cP,wk,ax,aO,ae,ak,sM] at*);(simp [wk,ax,aO,ae,ak,sM, *];omega))
 exact (dj (d:= .bool false) (E1++Sx 4 (tC (eF (nt h6)))++ [tC (nt h6),tF,tF,tF,tF,tT,tF,tF,tF,tF,tT,tF,tF,tF,tF,tT,tF,tF,tF,tF,tT,tT]) (by kernel_rfl)).to (by clear E1;(try simp only [cP,wk,ax,aO,ae,ak,sM] at*);(rw [SM];simp [wk,ax,aO,ae,ak,sM, *];grind))
end Go.Proofs.YtbfpahigdpigpaaGreat
