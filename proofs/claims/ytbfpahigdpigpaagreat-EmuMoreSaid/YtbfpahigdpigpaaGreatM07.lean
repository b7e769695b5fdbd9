import Derived.Test.YtbfpahigdpigpaaGreatM05
import Derived.Test.YtbfpahigdpigpaaGreatM06
/- Contracts and plain laws that a statement's proof leans on (texts merged:XD1,MdP3,XD1A,XOf,XOfA,XMay0). -/
set_option linter.unusedVariables false
set_option linter.unusedSimpArgs false
set_option maxRecDepth 100000
set_option maxHeartbeats 8000000
namespace Go.Proofs.YtbfpahigdpigpaaGreat
open Go Go.Ev
abbrev rB (s:au):Ob:= .box [.int .i8 s.w,.bool s.dQ,.int .u8 s.code,.int .i8 s.r,.int .i8 s.m,.int .i64 s.aa,.int .i64 s.af,.int .i64 s.small,.int .i64 s.eE,.int .i64 s.e9,.int .i8 s.high]
theorem Gy (s:au) (k:Int) (k0:0≤k) (k1:k≤31) (v0:0≤s.code) (v1:s.code≤255) (cd nm:Int) (z0 z1 z2 z3 z4 z5 z6 z8 z9:Ob):ai Tryz.prog 143 ([.ptr false 7 0,.int .i8 (IntKind.i8.wrap k),.agg [.int .i8 1,.int .u8 cd,.int .i8 nm]]) ([z0,z1,z2,z3,z4,z5,z6,rB s,z8,z9]) (xD (IntKind.i8.wrap k) (au.w s) (au.m s) (au.r s) 0 0 0 0) ([z0,z1,z2,z3,z4,z5,z6,rB s,z8,z9,.dead,.dead,.dead]):=by
 exact (ai.ae (aB:= [0,1,2,3,4,5,6,7,8,9]) (d:=(xD (IntKind.i8.wrap k) (au.w s) (au.m s) (au.r s) 0 0 0 0)) (s':= [z0,z1,z2,z3,z4,z5,z6,rB s,z8,z9,.dead,.dead,.dead]) mixed [tT] (by kernel_rfl)).cast (by first|(rfl;done)|(exfalso;(try simp only [decide_eq_true_eq,decide_eq_false_iff_not,beq_iff_eq,beq_eq_false_iff_ne,bne_iff_ne,ne_eq] at*);first|omega|contradiction)) (by rfl)
theorem Gx (s:au) (k:Int) (k0:0≤k) (k1:k≤31) (v0:0≤s.code) (v1:s.code≤255) (cd nm:Int) (z0 z1 z2 z3 z4 z5 z6 z8 z9:Ob):ai Tryz.prog 143 ([.ptr false 7 0,.int .i8 (IntKind.i8.wrap k),.agg [.int .i8 2,.int .u8 cd,.int .i8 nm]]) ([z0,z1,z2,z3,z4,z5,z6,rB s,z8,z9]) (xD (IntKind.i8.wrap k) (au.w s) (au.r s) (au.m s) 0 0 0 0) ([z0,z1,z2,z3,z4,z5,z6,rB s,z8,z9,.dead,.dead,.dead]):=by
 exact (ai.ae (aB:= [0,1,2,3,4,5,6,7,8,9]) (d:=(xD (IntKind.i8.wrap k) (au.w s) (au.r s) (au.m s) 0 0 0 0)) (s':= [z0,z1,z2,z3,z4,z5,z6,rB s,z8,z9,.dead,.dead,.dead]) mixed [tF,tT] (by kernel_rfl)).cast (by first|(rfl;done)|(exfalso;(try simp only [decide_eq_true_eq,decide_eq_false_iff_not,beq_iff_eq,beq_eq_false_iff_ne,bne_iff_ne,ne_eq] at*);first|omega|contradiction)) (by rfl)
theorem ET (s:au) (k:Int) (k0:0≤k) (k1:k≤31) (v0:0≤s.code) (v1:s.code≤255) (cd nm:Int) (z0 z1 z2 z3 z4 z5 z6 z8 z9:Ob) (hk:¬k=1):ai Tryz.prog 143 ([.ptr false 7 0,.int .i8 (IntKind.i8.wrap k),.agg [.int .i8 3,.int .u8 cd,.int .i8 nm]]) ([z0,z1,z2,z3,z4,z5,z6,rB s,z8,z9]) (xD (IntKind.i8.wrap k) (au.w s) (au.m s) 0 0 0 (au.af s) 0) ([z0,z1,z2,z3,z4,z5,z6,rB s,z8,z9,.dead,.dead,.dead]):=by
 exact (ai.ae (aB:= [0,1,2,3,4,5,6,7,8,9]) (d:=(xD (IntKind.i8.wrap k) (au.w s) (au.m s) 0 0 0 (au.af s) 0)) (s':= [z0,z1,z2,z3,z4,z5,z6,rB s,z8,z9,.dead,.dead,.dead]) mixed ([tF,tF,tF,tT,tC (eT (by (simp only [dK] at*;omega):(IntKind.i8.wrap k==1)=false)),tC (eT (by (simp only [dK] at*;omega):(IntKind.i8.wrap k==1)=false)),tC (eT (by (simp only [dK] at*;omega):(IntKind.i8.wrap k==1)=false)),tC (eT (by (simp only [dK] at*;omega):(IntKind.i8.wrap k==1)=false)),tC (eT (by (simp only [dK] at*;omega):(IntKind.i8.wrap k==1)=false)),tC (by (simp only [dK] at*;omega):(IntKind.i8.wrap k==1)=false),tF,tF,tF,tF,tF,tF]++ [tF]) (by kernel_rfl)).cast (by first|(rfl;done)|(exfalso;(try simp only [decide_eq_true_eq,decide_eq_false_iff_not,beq_iff_eq,beq_eq_false_iff_ne,bne_iff_ne,ne_eq] at*);first|omega|contradiction)) (by rfl)
theorem EV (s:au) (k:Int) (k0:0≤k) (k1:k≤31) (v0:0≤s.code) (v1:s.code≤255) (cd nm:Int) (z0 z1 z2 z3 z4 z5 z6 z8 z9:Ob) (hk:k=1) (hc:s.code<184):ai Tryz.prog 143 ([.ptr false 7 0,.int .i8 (IntKind.i8.wrap k),.agg [.int .i8 3,.int .u8 cd,.int .i8 nm]]) ([z0,z1,z2,z3,z4,z5,z6,rB s,z8,z9]) (xD (IntKind.i8.wrap k) (au.w s) (au.m s) 0 0 0 (au.af s) 0) ([z0,z1,z2,z3,z4,z5,z6,rB s,z8,z9,.dead,.dead,.dead]):=by
 exact (ai.ae (aB:= [0,1,2,3,4,5,6,7,8,9]) (d:=(xD (IntKind.i8.wrap k) (au.w s) (au.m s) 0 0 0 (au.af s) 0)) (s':= [z0,z1,z2,z3,z4,z5,z6,rB s,z8,z9,.dead,.dead,.dead]) mixed ([tF,tF,tF,tT,tC (eT (de 1 true (by (simp only [dK] at*;omega):IntKind.i8.wrap k=1))),tC (eT (de 1 true (by (simp only [dK] at*;omega):IntKind.i8.wrap k=1))),tC (eT (de 1 true (by (simp only [dK] at*;omega):IntKind.i8.wrap k=1))),tC (eT (de 1 true (by (simp only [dK] at*;omega):IntKind.i8.wrap k=1))),tC (eT (de 1 true (by (simp only [dK] at*;omega):IntKind.i8.wrap k=1))),tC (de 1 true (by (simp only [dK] at*;omega):IntKind.i8.wrap k=1)),tC (eT (bR 184 (decide_eq_true hc))),tC (eT (bR 184 (decide_eq_true hc))),tC (eT (bR 184 (decide_eq_true hc))),tC (eT (bR 184 (decide_eq_true hc))),tC (eT (bR 184 (decide_eq_true hc))),tC (bR 184 (decide_eq_true hc))]++ [tF]) (by kernel_rfl)).cast (by first|(rfl;done)|(exfalso;(try simp only [decide_eq_true_eq,decide_eq_false_iff_not,beq_iff_eq,beq_eq_false_iff_ne,bne_iff_ne,ne_eq] at*);first|omega|contradiction)) (by rfl)
theorem EW (s:au) (k:Int) (k0:0≤k) (k1:k≤31) (v0:0≤s.code) (v1:s.code≤255) (cd nm:Int) (z0 z1 z2 z3 z4 z5 z6 z8 z9:Ob) (hk:k=1) (hc:192≤s.code):ai Tryz.prog 143 ([.ptr false 7 0,.int .i8 (IntKind.i8.wrap k),.agg [.int .i8 3,.int .u8 cd,.int .i8 nm]]) ([z0,z1,z2,z3,z4,z5,z6,rB s,z8,z9]) (xD (IntKind.i8.wrap k) (au.w s) (au.m s) 0 0 0 (au.af s) 0) ([z0,z1,z2,z3,z4,z5,z6,rB s,z8,z9,.dead,.dead,.dead]):=by
 exact (ai.ae (aB:= [0,1,2,3,4,5,6,7,8,9]) (d:=(xD (IntKind.i8.wrap k) (au.w s) (au.m s) 0 0 0 (au.af s) 0)) (s':= [z0,z1,z2,z3,z4,z5,z6,rB s,z8,z9,.dead,.dead,.dead]) mixed ([tF,tF,tF,tT,tC (eT (de 1 true (by (simp only [dK] at*;omega):IntKind.i8.wrap k=1))),tC (eT (de 1 true (by (simp only [dK] at*;omega):IntKind.i8.wrap k=1))),tC (eT (de 1 true (by (simp only [dK] at*;omega):IntKind.i8.wrap k=1))),tC (eT (de 1 true (by (simp only [dK] at*;omega):IntKind.i8.wrap k=1))),tC (eT (de 1 true (by (simp only [dK] at*;omega):IntKind.i8.wrap k=1))),tC (de 1 true (by (simp only [dK] at*;omega):IntKind.i8.wrap k=1)),tC (eT (bR 184 (l8 184 (decide_eq_false (Int.not_lt.2 hc))))),tC (eT (bR 184 (l8 184 (decide_eq_false (Int.not_lt.2 hc))))),tC (eT (bR 184 (l8 184 (decide_eq_false (Int.not_lt.2 hc))))),tC (eT (bR 184 (l8 184 (decide_eq_false (Int.not_lt.2 hc))))),tC (eT (bR 184 (l8 184 (decide_eq_false (Int.not_lt.2 hc))))),tC (bR 184 (l8 184 (decide_eq_false (Int.not_lt.2 hc))))]++ [tC (decide_eq_false (Int.not_lt.2 hc))]) (by kernel_rfl)).cast (by first|(rfl;done)|(exfalso;(try simp only [decide_eq_true_eq,decide_eq_false_iff_not,beq_iff_eq,beq_eq_false_iff_ne,bne_iff_ne,ne_eq] at*);first|omega|contradiction)) (by rfl)
theorem EU (s:au) (k:Int) (k0:0≤k) (k1:k≤31) (v0:0≤s.code) (v1:s.code≤255) (cd nm:Int) (z0 z1 z2 z3 z4 z5 z6 z8 z9:Ob) (hk:k=1) (hc:184≤s.code) (hd:s.code<192) (hh:s.high=0∨s.high=8):ai Tryz.prog 143 ([.ptr false 7 0,.int .i8 (IntKind.i8.wrap k),.agg [.int .i8 3,.int .u8 cd,.int .i8 nm]]) ([z0,z1,z2,z3,z4,z5,z6,rB s,z8,z9]) (xD (IntKind.i8.wrap k) (au.w s) (s.code%8+s.high) 0 0 0 (au.eE s) 0) ([z0,z1,z2,z3,z4,z5,z6,rB s,z8,z9,.dead,.dead,.dead]):=by
 exact (ai.ae (aB:= [0,1,2,3,4,5,6,7,8,9]) (d:=(xD (IntKind.i8.wrap k) (au.w s) (IntKind.i8.wrap (↑(BitVec.toNat (BitVec.ofInt 8 (IntKind.i8.wrap (IntKind.u8.wrap (↑(BitVec.toNat (BitVec.ofInt 8 (au.code s)&&&BitVec.ofInt 8 7)):Int)))|||BitVec.ofInt 8 (au.high s))):Int)) 0 0 0 (au.eE s) 0)) (s':= [z0,z1,z2,z3,z4,z5,z6,rB s,z8,z9,.dead,.dead,.dead]) mixed ([tF,tF,tF,tT,tC (eT (de 1 true (by (simp only [dK] at*;omega):IntKind.i8.wrap k=1))),tC (eT (de 1 true (by (simp only [dK] at*;omega):IntKind.i8.wrap k=1))),tC (eT (de 1 true (by (simp only [dK] at*;omega):IntKind.i8.wrap k=1))),tC (eT (de 1 true (by (simp only [dK] at*;omega):IntKind.i8.wrap k=1))),tC (eT (de 1 true (by (simp only [dK] at*;omega):IntKind.i8.wrap k=1))),tC (de 1 true (by (simp only [dK] at*;omega):IntKind.i8.wrap k=1)),tC (eT (bR 184 (decide_eq_false (Int.not_lt.2 hc)))),tC (eT (bR 184 (decide_eq_false (Int.not_lt.2 hc)))),tC (eT (bR 184 (decide_eq_false (Int.not_lt.2 hc)))),tC (eT (bR 184 (decide_eq_false (Int.not_lt.2 hc)))),tC (eT (bR 184 (decide_eq_false (Int.not_lt.2 hc)))),tC (bR 184 (decide_eq_false (Int.not_lt.2 hc)))]++ [tC (decide_eq_true hd)]) (by kernel_rfl)).cast (by first|(simp only [xD,D.agg.injEq,List.cons.injEq,D.int.injEq,true_and,and_true];exact Gf v0 v1 hh;done)|(exfalso;(try simp only [decide_eq_true_eq,decide_eq_false_iff_not,beq_iff_eq,beq_eq_false_iff_ne,bne_iff_ne,ne_eq] at*);first|omega|contradiction)) (by rfl)
theorem Gw (s:au) (k:Int) (k0:0≤k) (k1:k≤31) (v0:0≤s.code) (v1:s.code≤255) (cd nm:Int) (z0 z1 z2 z3 z4 z5 z6 z8 z9:Ob):ai Tryz.prog 143 ([.ptr false 7 0,.int .i8 (IntKind.i8.wrap k),.agg [.int .i8 4,.int .u8 cd,.int .i8 nm]]) ([z0,z1,z2,z3,z4,z5,z6,rB s,z8,z9]) (xD (IntKind.i8.wrap k) (au.w s) (au.m s) 0 0 0 (au.small s) 0) ([z0,z1,z2,z3,z4,z5,z6,rB s,z8,z9,.dead,.dead,.dead]):=by
 exact (ai.ae (aB:= [0,1,2,3,4,5,6,7,8,9]) (d:=(xD (IntKind.i8.wrap k) (au.w s) (au.m s) 0 0 0 (au.small s) 0)) (s':= [z0,z1,z2,z3,z4,z5,z6,rB s,z8,z9,.dead,.dead,.dead]) mixed [tF,tF,tF,tF,tT] (by kernel_rfl)).cast (by first|(rfl;done)|(exfalso;(try simp only [decide_eq_true_eq,decide_eq_false_iff_not,beq_iff_eq,beq_eq_false_iff_ne,bne_iff_ne,ne_eq] at*);first|omega|contradiction)) (by rfl)
theorem Gv (s:au) (k:Int) (k0:0≤k) (k1:k≤31) (v0:0≤s.code) (v1:s.code≤255) (cd nm:Int) (z0 z1 z2 z3 z4 z5 z6 z8 z9:Ob):ai Tryz.prog 143 ([.ptr false 7 0,.int .i8 (IntKind.i8.wrap k),.agg [.int .i8 5,.int .u8 cd,.int .i8 nm]]) ([z0,z1,z2,z3,z4,z5,z6,rB s,z8,z9]) (xD (IntKind.i8.wrap k) (au.w s) (au.m s) 0 0 0 0 0) ([z0,z1,z2,z3,z4,z5,z6,rB s,z8,z9,.dead,.dead,.dead]):=by
 exact (ai.ae (aB:= [0,1,2,3,4,5,6,7,8,9]) (d:=(xD (IntKind.i8.wrap k) (au.w s) (au.m s) 0 0 0 0 0)) (s':= [z0,z1,z2,z3,z4,z5,z6,rB s,z8,z9,.dead,.dead,.dead]) mixed [tF,tF,tF,tF,tF,tT] (by kernel_rfl)).cast (by first|(rfl;done)|(exfalso;(try simp only [decide_eq_true_eq,decide_eq_false_iff_not,beq_iff_eq,beq_eq_false_iff_ne,bne_iff_ne,ne_eq] at*);first|omega|contradiction)) (by rfl)
theorem Gu (s:au) (k:Int) (k0:0≤k) (k1:k≤31) (v0:0≤s.code) (v1:s.code≤255) (cd nm:Int) (z0 z1 z2 z3 z4 z5 z6 z8 z9:Ob):ai Tryz.prog 143 ([.ptr false 7 0,.int .i8 (IntKind.i8.wrap k),.agg [.int .i8 6,.int .u8 cd,.int .i8 nm]]) ([z0,z1,z2,z3,z4,z5,z6,rB s,z8,z9]) (xD (IntKind.i8.wrap k) (au.w s) (au.r s) (au.m s) 0 0 0 (dw (s.code - cd))) ([z0,z1,z2,z3,z4,z5,z6,rB s,z8,z9,.dead,.dead,.dead]):=by
 exact (ai.ae (aB:= [0,1,2,3,4,5,6,7,8,9]) (d:=(xD (IntKind.i8.wrap k) (au.w s) (au.r s) (au.m s) 0 0 0 (IntKind.i8.wrap (IntKind.u8.wrap (au.code s - cd))))) (s':= [z0,z1,z2,z3,z4,z5,z6,rB s,z8,z9,.dead,.dead,.dead]) mixed [tF,tF,tT] (by kernel_rfl)).cast (by first|(simp only [xD,D.agg.injEq,List.cons.injEq,D.int.injEq,true_and,and_true];rw [ke,dt,dw];omega;done)|(exfalso;(try simp only [decide_eq_true_eq,decide_eq_false_iff_not,beq_iff_eq,beq_eq_false_iff_ne,bne_iff_ne,ne_eq] at*);first|omega|contradiction)) (by rfl)
theorem ER (s:au) (k:Int) (k0:0≤k) (k1:k≤31) (v0:0≤s.code) (v1:s.code≤255) (cd nm:Int) (z0 z1 z2 z3 z4 z5 z6 z8 z9:Ob) (hl:s.dQ=true):ai Tryz.prog 143 ([.ptr false 7 0,.int .i8 (IntKind.i8.wrap k),.agg [.int .i8 7,.int .u8 cd,.int .i8 nm]]) ([z0,z1,z2,z3,z4,z5,z6,.box [.int .i8 (au.w s),.bool (au.dQ s),.int .u8 (au.code s),.int .i8 (au.r s),.int .i8 (au.m s),.int .i64 (au.aa s),.int .i64 (au.af s),.int .i64 (au.small s),.int .i64 (au.eE s),.int .i64 (au.e9 s),.int .i8 (au.high s)],z8,z9]) (xD (IntKind.i8.wrap k) (if s.code%2=1 then 16 else 8) (au.r s) 0 (au.m s) (au.aa s) 0 0) ([z0,z1,z2,z3,z4,z5,z6,.box [.int .i8 (au.w s),.bool (au.dQ s),.int .u8 (au.code s),.int .i8 (au.r s),.int .i8 (au.m s),.int .i64 (au.aa s),.int .i64 (au.af s),.int .i64 (au.small s),.int .i64 (au.eE s),.int .i64 (au.e9 s),.int .i8 (au.high s)],z8,z9,.dead,.dead,.dead]):=by
 exact (ai.ae (aB:= [0,1,2,3,4,5,6,7,8,9]) (d:=(xD (IntKind.i8.wrap k) (IntKind.i8.wrap (8*2^min (Int.toNat (IntKind.u8.wrap (↑(BitVec.toNat (BitVec.ofInt 8 (au.code s)&&&BitVec.ofInt 8 1)):Int))) 8)) (au.r s) 0 (au.m s) (au.aa s) 0 0)) (s':= [z0,z1,z2,z3,z4,z5,z6,rB s,z8,z9,.dead,.dead,.dead]) mixed [tF,tF,tF,tF,tF,tF,tT,tC hl,tT] (by kernel_rfl)).cast (by first|(simp only [xD,D.agg.injEq,List.cons.injEq,D.int.injEq,true_and,and_true];exact DP v0 v1;done)|(exfalso;(try simp only [decide_eq_true_eq,decide_eq_false_iff_not,beq_iff_eq,beq_eq_false_iff_ne,bne_iff_ne,ne_eq] at*);first|omega|contradiction)) (by rfl)
theorem ES (s:au) (k:Int) (k0:0≤k) (k1:k≤31) (v0:0≤s.code) (v1:s.code≤255) (cd nm:Int) (z0 z1 z2 z3 z4 z5 z6 z8 z9:Ob) (hl:s.dQ=false):ai Tryz.prog 143 ([.ptr false 7 0,.int .i8 (IntKind.i8.wrap k),.agg [.int .i8 7,.int .u8 cd,.int .i8 nm]]) ([z0,z1,z2,z3,z4,z5,z6,.box [.int .i8 (au.w s),.bool (au.dQ s),.int .u8 (au.code s),.int .i8 (au.r s),.int .i8 (au.m s),.int .i64 (au.aa s),.int .i64 (au.af s),.int .i64 (au.small s),.int .i64 (au.eE s),.int .i64 (au.e9 s),.int .i8 (au.high s)],z8,z9]) (xD (IntKind.i8.wrap k) (au.w s) (au.r s) 0 (au.m s) (au.aa s) 0 0) ([z0,z1,z2,z3,z4,z5,z6,.box [.int .i8 (au.w s),.bool (au.dQ s),.int .u8 (au.code s),.int .i8 (au.r s),.int .i8 (au.m s),.int .i64 (au.aa s),.int .i64 (au.af s),.int .i64 (au.small s),.int .i64 (au.eE s),.int .i64 (au.e9 s),.int .i8 (au.high s)],z8,z9,.dead,.dead,.dead]):=by
 exact (ai.ae (aB:= [0,1,2,3,4,5,6,7,8,9]) (d:=(xD (IntKind.i8.wrap k) (au.w s) (au.r s) 0 (au.m s) (au.aa s) 0 0)) (s':= [z0,z1,z2,z3,z4,z5,z6,rB s,z8,z9,.dead,.dead,.dead]) mixed [tF,tF,tF,tF,tF,tF,tT,tC hl] (by kernel_rfl)).cast (by first|(rfl;done)|(exfalso;(try simp only [decide_eq_true_eq,decide_eq_false_iff_not,beq_iff_eq,beq_eq_false_iff_ne,bne_iff_ne,ne_eq] at*);first|omega|contradiction)) (by rfl)
theorem EO (s:au) (k:Int) (k0:0≤k) (k1:k≤31) (v0:0≤s.code) (v1:s.code≤255) (cd nm:Int) (z0 z1 z2 z3 z4 z5 z6 z8 z9:Ob) (hc:s.code=136):ai Tryz.prog 143 ([.ptr false 7 0,.int .i8 (IntKind.i8.wrap k),.agg [.int .i8 8,.int .u8 cd,.int .i8 nm]]) ([z0,z1,z2,z3,z4,z5,z6,rB s,z8,z9]) (xD (IntKind.i8.wrap k) 8 0 (au.r s) (au.m s) (au.aa s) 0 0) ([z0,z1,z2,z3,z4,z5,z6,rB s,z8,z9,.dead,.dead,.dead]):=by
 by_cases h0:au.code s=136
 ·exact (ai.ae (aB:= [0,1,2,3,4,5,6,7,8,9]) (d:=(xD (IntKind.i8.wrap k) 8 0 (au.r s) (au.m s) (au.aa s) 0 0)) (s':= [z0,z1,z2,z3,z4,z5,z6,rB s,z8,z9,.dead,.dead,.dead]) mixed [tF,tF,tF,tF,tF,tF,tF,tT,tC (de 136 true h0)] (by kernel_rfl)).cast (by first|(rfl;done)|(exfalso;(try simp only [decide_eq_true_eq,decide_eq_false_iff_not,beq_iff_eq,beq_eq_false_iff_ne,bne_iff_ne,ne_eq] at*);first|omega|contradiction)) (by rfl)
 exact (ai.ae (aB:= [0,1,2,3,4,5,6,7,8,9]) (d:=(xD (IntKind.i8.wrap k) (au.w s) 0 (au.r s) (au.m s) (au.aa s) 0 0)) (s':= [z0,z1,z2,z3,z4,z5,z6,rB s,z8,z9,.dead,.dead,.dead]) mixed [tF,tF,tF,tF,tF,tF,tF,tT,tC (av h0)] (by kernel_rfl)).cast (by first|(rfl;done)|(exfalso;(try simp only [decide_eq_true_eq,decide_eq_false_iff_not,beq_iff_eq,beq_eq_false_iff_ne,bne_iff_ne,ne_eq] at*);first|omega|contradiction)) (by rfl)
theorem EP (s:au) (k:Int) (k0:0≤k) (k1:k≤31) (v0:0≤s.code) (v1:s.code≤255) (cd nm:Int) (z0 z1 z2 z3 z4 z5 z6 z8 z9:Ob) (hc:¬s.code=136):ai Tryz.prog 143 ([.ptr false 7 0,.int .i8 (IntKind.i8.wrap k),.agg [.int .i8 8,.int .u8 cd,.int .i8 nm]]) ([z0,z1,z2,z3,z4,z5,z6,rB s,z8,z9]) (xD (IntKind.i8.wrap k) (au.w s) 0 (au.r s) (au.m s) (au.aa s) 0 0) ([z0,z1,z2,z3,z4,z5,z6,rB s,z8,z9,.dead,.dead,.dead]):=by
 exact (ai.ae (aB:= [0,1,2,3,4,5,6,7,8,9]) (d:=(xD (IntKind.i8.wrap k) (au.w s) 0 (au.r s) (au.m s) (au.aa s) 0 0)) (s':= [z0,z1,z2,z3,z4,z5,z6,rB s,z8,z9,.dead,.dead,.dead]) mixed [tF,tF,tF,tF,tF,tF,tF,tT,tC (by (simp only [dK] at*;omega):(au.code s==136)=false)] (by kernel_rfl)).cast (by first|(rfl;done)|(exfalso;(try simp only [decide_eq_true_eq,decide_eq_false_iff_not,beq_iff_eq,beq_eq_false_iff_ne,bne_iff_ne,ne_eq] at*);first|omega|contradiction)) (by rfl)
theorem EN (s:au) (k:Int) (k0:0≤k) (k1:k≤31) (v0:0≤s.code) (v1:s.code≤255) (cd nm:Int) (z0 z1 z2 z3 z4 z5 z6 z8 z9:Ob) (hl:s.dQ=true):ai Tryz.prog 143 ([.ptr false 7 0,.int .i8 (IntKind.i8.wrap k),.agg [.int .i8 9,.int .u8 cd,.int .i8 nm]]) ([z0,z1,z2,z3,z4,z5,z6,.box [.int .i8 (au.w s),.bool (au.dQ s),.int .u8 (au.code s),.int .i8 (au.r s),.int .i8 (au.m s),.int .i64 (au.aa s),.int .i64 (au.af s),.int .i64 (au.small s),.int .i64 (au.eE s),.int .i64 (au.e9 s),.int .i8 (au.high s)],z8,z9]) (xD (IntKind.i8.wrap k) 32 0 0 0 0 (au.eE s) 0) ([z0,z1,z2,z3,z4,z5,z6,.box [.int .i8 (au.w s),.bool (au.dQ s),.int .u8 (au.code s),.int .i8 (au.r s),.int .i8 (au.m s),.int .i64 (au.aa s),.int .i64 (au.af s),.int .i64 (au.small s),.int .i64 (au.eE s),.int .i64 (au.e9 s),.int .i8 (au.high s)],z8,z9,.dead,.dead,.dead]):=by
 exact (ai.ae (aB:= [0,1,2,3,4,5,6,7,8,9]) (d:=(xD (IntKind.i8.wrap k) 32 0 0 0 0 (au.eE s) 0)) (s':= [z0,z1,z2,z3,z4,z5,z6,rB s,z8,z9,.dead,.dead,.dead]) mixed ([tF,tF,tF,tF,tF,tF,tF,tF,tT,tT,tF,tC (eT (nt hl)),tC (eT (nt hl)),tC (eT (nt hl)),tC (eT (nt hl)),tC (eT (nt hl))]++ [tC (nt hl),tF]) (by kernel_rfl)).cast (by first|(rfl;done)|(exfalso;(try simp only [decide_eq_true_eq,decide_eq_false_iff_not,beq_iff_eq,beq_eq_false_iff_ne,bne_iff_ne,ne_eq] at*);first|omega|contradiction)) (by rfl)
theorem EM (s:au) (k:Int) (k0:0≤k) (k1:k≤31) (v0:0≤s.code) (v1:s.code≤255) (cd nm:Int) (z0 z1 z2 z3 z4 z5 z6 z8 z9:Ob) (hl:s.dQ=false) (hc:s.code=233):ai Tryz.prog 143 ([.ptr false 7 0,.int .i8 (IntKind.i8.wrap k),.agg [.int .i8 9,.int .u8 cd,.int .i8 nm]]) ([z0,z1,z2,z3,z4,z5,z6,.box [.int .i8 (au.w s),.bool (au.dQ s),.int .u8 (au.code s),.int .i8 (au.r s),.int .i8 (au.m s),.int .i64 (au.aa s),.int .i64 (au.af s),.int .i64 (au.small s),.int .i64 (au.eE s),.int .i64 (au.e9 s),.int .i8 (au.high s)],z8,z9]) (xD (IntKind.i8.wrap k) 32 0 0 0 0 (au.eE s) 0) ([z0,z1,z2,z3,z4,z5,z6,.box [.int .i8 (au.w s),.bool (au.dQ s),.int .u8 (au.code s),.int .i8 (au.r s),.int .i8 (au.m s),.int .i64 (au.aa s),.int .i64 (au.af s),.int .i64 (au.small s),.int .i64 (au.eE s),.int .i64 (au.e9 s),.int .i8 (au.high s)],z8,z9,.dead,.dead,.dead]):=by
 by_cases h0:au.code s=233
 ·exact (ai.ae (aB:= [0,1,2,3,4,5,6,7,8,9]) (d:=(xD (IntKind.i8.wrap k) 32 0 0 0 0 (au.eE s) 0)) (s':= [z0,z1,z2,z3,z4,z5,z6,rB s,z8,z9,.dead,.dead,.dead]) mixed ([tF,tF,tF,tF,tF,tF,tF,tF,tT,tT,tF,tC (eT (nt hl)),tC (eT (nt hl)),tC (eT (nt hl)),tC (eT (nt hl)),tC (eT (nt hl))]++ [tC (nt hl),tC (nt (de 233 true h0))]) (by kernel_rfl)).cast (by first|(rfl;done)|(exfalso;(try simp only [decide_eq_true_eq,decide_eq_false_iff_not,beq_iff_eq,beq_eq_false_iff_ne,bne_iff_ne,ne_eq] at*);first|omega|contradiction)) (by rfl)
 exact (ai.ae (aB:= [0,1,2,3,4,5,6,7,8,9]) (d:=(xD (IntKind.i8.wrap k) 8 0 0 0 0 (au.e9 s) 0)) (s':= [z0,z1,z2,z3,z4,z5,z6,rB s,z8,z9,.dead,.dead,.dead]) mixed ([tF,tF,tF,tF,tF,tF,tF,tF,tT,tT,tF,tC (eT (nt hl)),tC (eT (nt hl)),tC (eT (nt hl)),tC (eT (nt hl)),tC (eT (nt hl))]++ [tC (nt hl),tC (nt (av h0))]) (by kernel_rfl)).cast (by first|(rfl;done)|(exfalso;(try simp only [decide_eq_true_eq,decide_eq_false_iff_not,beq_iff_eq,beq_eq_false_iff_ne,bne_iff_ne,ne_eq] at*);first|omega|contradiction)) (by rfl)
theorem EK (s:au) (k:Int) (k0:0≤k) (k1:k≤31) (v0:0≤s.code) (v1:s.code≤255) (cd nm:Int) (z0 z1 z2 z3 z4 z5 z6 z8 z9:Ob) (hl:s.dQ=false) (hc:¬s.code=233):ai Tryz.prog 143 ([.ptr false 7 0,.int .i8 (IntKind.i8.wrap k),.agg [.int .i8 9,.int .u8 cd,.int .i8 nm]]) ([z0,z1,z2,z3,z4,z5,z6,.box [.int .i8 (au.w s),.bool (au.dQ s),.int .u8 (au.code s),.int .i8 (au.r s),.int .i8 (au.m s),.int .i64 (au.aa s),.int .i64 (au.af s),.int .i64 (au.small s),.int .i64 (au.eE s),.int .i64 (au.e9 s),.int .i8 (au.high s)],z8,z9]) (xD (IntKind.i8.wrap k) 8 0 0 0 0 (au.e9 s) 0) ([z0,z1,z2,z3,z4,z5,z6,.box [.int .i8 (au.w s),.bool (au.dQ s),.int .u8 (au.code s),.int .i8 (au.r s),.int .i8 (au.m s),.int .i64 (au.aa s),.int .i64 (au.af s),.int .i64 (au.small s),.int .i64 (au.eE s),.int .i64 (au.e9 s),.int .i8 (au.high s)],z8,z9,.dead,.dead,.dead]):=by
 exact (ai.ae (aB:= [0,1,2,3,4,5,6,7,8,9]) (d:=(xD (IntKind.i8.wrap k) 8 0 0 0 0 (au.e9 s) 0)) (s':= [z0,z1,z2,z3,z4,z5,z6,rB s,z8,z9,.dead,.dead,.dead]) mixed ([tF,tF,tF,tF,tF,tF,tF,tF,tT,tT,tF,tC (eT (nt hl)),tC (eT (nt hl)),tC (eT (nt hl)),tC (eT (nt hl)),tC (eT (nt hl))]++ [tC (nt hl),tC (nt (by (simp only [dK] at*;omega):(au.code s==233)=false))]) (by kernel_rfl)).cast (by first|(rfl;done)|(exfalso;(try simp only [decide_eq_true_eq,decide_eq_false_iff_not,beq_iff_eq,beq_eq_false_iff_ne,bne_iff_ne,ne_eq] at*);first|omega|contradiction)) (by rfl)
theorem Dw (s:au) (k:Int) (k0:0≤k) (k1:k≤31) (v0:0≤s.code) (v1:s.code≤255) (cd nm:Int) (z0 z1 z2 z3 z4 z5 z6 z8 z9:Ob) (hl:s.dQ=true):ai Tryz.prog 143 ([.ptr false 7 0,.int .i8 (IntKind.i8.wrap k),.agg [.int .i8 10,.int .u8 cd,.int .i8 nm]]) ([z0,z1,z2,z3,z4,z5,z6,.box [.int .i8 (au.w s),.bool (au.dQ s),.int .u8 (au.code s),.int .i8 (au.r s),.int .i8 (au.m s),.int .i64 (au.aa s),.int .i64 (au.af s),.int .i64 (au.small s),.int .i64 (au.eE s),.int .i64 (au.e9 s),.int .i8 (au.high s)],z8,z9]) (xD (IntKind.i8.wrap k) 32 0 0 0 0 (au.eE s) (s.code%16)) ([z0,z1,z2,z3,z4,z5,z6,.box [.int .i8 (au.w s),.bool (au.dQ s),.int .u8 (au.code s),.int .i8 (au.r s),.int .i8 (au.m s),.int .i64 (au.aa s),.int .i64 (au.af s),.int .i64 (au.small s),.int .i64 (au.eE s),.int .i64 (au.e9 s),.int .i8 (au.high s)],z8,z9,.dead,.dead,.dead]):=by
 exact (ai.ae (aB:= [0,1,2,3,4,5,6,7,8,9]) (d:=(xD (IntKind.i8.wrap k) 32 0 0 0 0 (au.eE s) (IntKind.i8.wrap (IntKind.u8.wrap (↑(BitVec.toNat (BitVec.ofInt 8 (au.code s)&&&BitVec.ofInt 8 15)):Int))))) (s':= [z0,z1,z2,z3,z4,z5,z6,rB s,z8,z9,.dead,.dead,.dead]) mixed ([tF,tF,tF,tF,tF,tF,tF,tF,tF,tT,tT,tC (eT (nt hl)),tC (eT (nt hl)),tC (eT (nt hl)),tC (eT (nt hl)),tC (eT (nt hl))]++ [tC (nt hl),tF]) (by kernel_rfl)).cast (by first|(simp only [xD,D.agg.injEq,List.cons.injEq,D.int.injEq,true_and,and_true];exact yx v0 v1;done)|(exfalso;(try simp only [decide_eq_true_eq,decide_eq_false_iff_not,beq_iff_eq,beq_eq_false_iff_ne,bne_iff_ne,ne_eq] at*);first|omega|contradiction)) (by rfl)
theorem Dv (s:au) (k:Int) (k0:0≤k) (k1:k≤31) (v0:0≤s.code) (v1:s.code≤255) (cd nm:Int) (z0 z1 z2 z3 z4 z5 z6 z8 z9:Ob) (hl:s.dQ=false) (hc:s.code=233):ai Tryz.prog 143 ([.ptr false 7 0,.int .i8 (IntKind.i8.wrap k),.agg [.int .i8 10,.int .u8 cd,.int .i8 nm]]) ([z0,z1,z2,z3,z4,z5,z6,.box [.int .i8 (au.w s),.bool (au.dQ s),.int .u8 (au.code s),.int .i8 (au.r s),.int .i8 (au.m s),.int .i64 (au.aa s),.int .i64 (au.af s),.int .i64 (au.small s),.int .i64 (au.eE s),.int .i64 (au.e9 s),.int .i8 (au.high s)],z8,z9]) (xD (IntKind.i8.wrap k) 32 0 0 0 0 (au.eE s) (s.code%16)) ([z0,z1,z2,z3,z4,z5,z6,.box [.int .i8 (au.w s),.bool (au.dQ s),.int .u8 (au.code s),.int .i8 (au.r s),.int .i8 (au.m s),.int .i64 (au.aa s),.int .i64 (au.af s),.int .i64 (au.small s),.int .i64 (au.eE s),.int .i64 (au.e9 s),.int .i8 (au.high s)],z8,z9,.dead,.dead,.dead]):=by
 by_cases h0:au.code s=233
 ·exact (ai.ae (aB:= [0,1,2,3,4,5,6,7,8,9]) (d:=(xD (IntKind.i8.wrap k) 32 0 0 0 0 (au.eE s) (IntKind.i8.wrap (IntKind.u8.wrap (↑(BitVec.toNat (BitVec.ofInt 8 (au.code s)&&&BitVec.ofInt 8 15)):Int))))) (s':= [z0,z1,z2,z3,z4,z5,z6,rB s,z8,z9,.dead,.dead,.dead]) mixed ([tF,tF,tF,tF,tF,tF,tF,tF,tF,tT,tT,tC (eT (nt hl)),tC (eT (nt hl)),tC (eT (nt hl)),tC (eT (nt hl)),tC (eT (nt hl))]++ [tC (nt hl),tC (nt (de 233 true h0))]) (by kernel_rfl)).cast (by first|(simp only [xD,D.agg.injEq,List.cons.injEq,D.int.injEq,true_and,and_true];exact yx v0 v1;done)|(exfalso;(try simp only [decide_eq_true_eq,decide_eq_false_iff_not,beq_iff_eq,beq_eq_false_iff_ne,bne_iff_ne,ne_eq] at*);first|omega|contradiction)) (by rfl)
 exact (ai.ae (aB:= [0,1,2,3,4,5,6,7,8,9]) (d:=(xD (IntKind.i8.wrap k) 8 0 0 0 0 (au.e9 s) (IntKind.i8.wrap (IntKind.u8.wrap (↑(BitVec.toNat (BitVec.ofInt 8 (au.code s)&&&BitVec.ofInt 8 15)):Int))))) (s':= [z0,z1,z2,z3,z4,z5,z6,rB s,z8,z9,.dead,.dead,.dead]) mixed ([tF,tF,tF,tF,tF,tF,tF,tF,tF,tT,tT,tC (eT (nt hl)),tC (eT (nt hl)),tC (eT (nt hl)),tC (eT (nt hl)),tC (eT (nt hl))]++ [tC (nt hl),tC (nt (av h0))]) (by kernel_rfl)).cast (by first|(simp only [xD,D.agg.injEq,List.cons.injEq,D.int.injEq,true_and,and_true];exact yx v0 v1;done)|(exfalso;(try simp only [decide_eq_true_eq,decide_eq_false_iff_not,beq_iff_eq,beq_eq_false_iff_ne,bne_iff_ne,ne_eq] at*);first|omega|contradiction)) (by rfl)
theorem Du (s:au) (k:Int) (k0:0≤k) (k1:k≤31) (v0:0≤s.code) (v1:s.code≤255) (cd nm:Int) (z0 z1 z2 z3 z4 z5 z6 z8 z9:Ob) (hl:s.dQ=false) (hc:¬s.code=233):ai Tryz.prog 143 ([.ptr false 7 0,.int .i8 (IntKind.i8.wrap k),.agg [.int .i8 10,.int .u8 cd,.int .i8 nm]]) ([z0,z1,z2,z3,z4,z5,z6,.box [.int .i8 (au.w s),.bool (au.dQ s),.int .u8 (au.code s),.int .i8 (au.r s),.int .i8 (au.m s),.int .i64 (au.aa s),.int .i64 (au.af s),.int .i64 (au.small s),.int .i64 (au.eE s),.int .i64 (au.e9 s),.int .i8 (au.high s)],z8,z9]) (xD (IntKind.i8.wrap k) 8 0 0 0 0 (au.e9 s) (s.code%16)) ([z0,z1,z2,z3,z4,z5,z6,.box [.int .i8 (au.w s),.bool (au.dQ s),.int .u8 (au.code s),.int .i8 (au.r s),.int .i8 (au.m s),.int .i64 (au.aa s),.int .i64 (au.af s),.int .i64 (au.small s),.int .i64 (au.eE s),.int .i64 (au.e9 s),.int .i8 (au.high s)],z8,z9,.dead,.dead,.dead]):=by
 exact (ai.ae (aB:= [0,1,2,3,4,5,6,7,8,9]) (d:=(xD (IntKind.i8.wrap k) 8 0 0 0 0 (au.e9 s) (IntKind.i8.wrap (IntKind.u8.wrap (↑(BitVec.toNat (BitVec.ofInt 8 (au.code s)&&&BitVec.ofInt 8 15)):Int))))) (s':= [z0,z1,z2,z3,z4,z5,z6,rB s,z8,z9,.dead,.dead,.dead]) mixed ([tF,tF,tF,tF,tF,tF,tF,tF,tF,tT,tT,tC (eT (nt hl)),tC (eT (nt hl)),tC (eT (nt hl)),tC (eT (nt hl)),tC (eT (nt hl))]++ [tC (nt hl),tC (nt (by (simp only [dK] at*;omega):(au.code s==233)=false))]) (by kernel_rfl)).cast (by first|(simp only [xD,D.agg.injEq,List.cons.injEq,D.int.injEq,true_and,and_true];exact yx v0 v1;done)|(exfalso;(try simp only [decide_eq_true_eq,decide_eq_false_iff_not,beq_iff_eq,beq_eq_false_iff_ne,bne_iff_ne,ne_eq] at*);first|omega|contradiction)) (by rfl)
theorem EX (s:au) (k:Int) (k0:0≤k) (k1:k≤31) (v0:0≤s.code) (v1:s.code≤255) (cd nm:Int) (z0 z1 z2 z3 z4 z5 z6 z8 z9:Ob):ai Tryz.prog 143 ([.ptr false 7 0,.int .i8 (IntKind.i8.wrap k),.agg [.int .i8 11,.int .u8 cd,.int .i8 nm]]) ([z0,z1,z2,z3,z4,z5,z6,rB s,z8,z9]) (xD (IntKind.i8.wrap k) 0 0 0 0 0 0 0) ([z0,z1,z2,z3,z4,z5,z6,rB s,z8,z9,.dead,.dead,.dead]):=by
 exact (ai.ae (aB:= [0,1,2,3,4,5,6,7,8,9]) (d:=(xD (IntKind.i8.wrap k) 0 0 0 0 0 0 0)) (s':= [z0,z1,z2,z3,z4,z5,z6,rB s,z8,z9,.dead,.dead,.dead]) mixed [tF,tF,tF,tF,tF,tF,tF,tF,tF,tF,tT] (by kernel_rfl)).cast (by first|(rfl;done)|(exfalso;(try simp only [decide_eq_true_eq,decide_eq_false_iff_not,beq_iff_eq,beq_eq_false_iff_ne,bne_iff_ne,ne_eq] at*);first|omega|contradiction)) (by rfl)
end Go.Proofs.YtbfpahigdpigpaaGreat
namespace Go.Ev
open Go
def j9 (x:XS):D:=xD x.op x.w x.dst x.src x.base x.aa x.af x.cc
def uW (x:XS):Bool:=cg x.op x.w x.dst x.src x.base x.aa x.af x.cc
def fm (x:XS):List Int:=aK x.op x.w x.dst x.src x.base x.aa x.af x.cc
theorem iO:∀n:Fin 32,1≤ax (n.val:Int)∧ax (n.val:Int)≤11:=by decide+kernel
theorem vW {k:Int} (k0:0≤k) (k1:k≤31):ax k=1∨ax k=2∨ax k=3∨ax k=4∨ax k=5∨ax k=6∨ax k=7∨ax k=8∨ax k=9∨ax k=10∨ax k=11:=by
 have:=iO ⟨k.toNat,by omega⟩
 have e:((⟨k.toNat,by omega⟩:Fin 32).val:Int)=k:=by simp;omega
 rw [e] at this
 omega
theorem GI {k:Int} (k0:0≤k) (k1:k≤31):IntKind.i8.wrap k=k:=by rw [ke];omega
theorem zM {b:List Int} (hb:gQ b) {s:au} (h:jx b=some s):0≤s.code∧s.code≤255∧(s.high=0∨s.high=8):=by
 have code:∀ {w R M:Int} {u:List Int},gQ u→(M=0∨M=8)→fE w R M u=some s→0≤s.code∧s.code≤255∧(s.high=0∨s.high=8):=by
  intro w R M u hu hM h
  match u,hu with
  | [],_=>cases h
  |c::v,hu=>
   obtain ⟨⟨c0,c1⟩,hv⟩:=dW.1 hu
   by_cases hc:c=15
   ·subst hc
    match v,hv,h with
    | [],_,h=>rw [show fE w R M [15]=some (aU w R M false 15 []) from rfl] at h;cases h;exact ⟨by simp [aU],by simp [aU],hM⟩
    |d::z,hv,h=>rw [fS] at h;cases h;exact ⟨(hv d (by simp)).1,(hv d (by simp)).2,hM⟩
   ·rw [cz hc] at h;cases h;exact ⟨c0,c1,hM⟩
 have wa:∀ {w:Int} {u:List Int},gQ u→e8 w u=some s→0≤s.code∧s.code≤255∧(s.high=0∨s.high=8):=by
  intro w u hu h
  match u,hu with
  | [],_=>cases h
  |c::v,hu=>
   by_cases hq:iL c=true
   ·simp only [e8,if_pos hq] at h
    exact code (dW.1 hu).2 (by omega) h
   ·simp only [e8,if_neg hq] at h
    exact code hu (.inl rfl) h
 unfold jx at h
 split at h
 ·exact wa (fun x hx=>hb x (List.mem_of_mem_drop hx)) h
 ·exact wa hb h
def jy (b:List Int) (x:XS):Bool:=uW x&&(fm x).isPrefixOf b
def eA (b:List Int) (s:au):List Int→Option XS
  | []=>none
  |k::r=>if jy b (eg s k) then some (eg s k) else eA b s r
def mm (b:List Int):Option XS:=if jy b (qB b) then some (qB b) else none
theorem nq {b:List Int} {x:XS} (h:jy b x=true):qB b=x∧∃s,jx b=some s∧eg s x.op=x:=by
 unfold jy at h
 rw [Bool.and_eq_true,List.isPrefixOf_iff_prefix] at h
 obtain ⟨hm,t,rfl⟩:=h
 exact ⟨Di hm t,Ch hm t⟩
theorem pW {b:List Int} {s:au} {x:XS} :∀ {l:List Int},eA b s l=some x→jy b x=true
 | [],h=>by cases h
 |k::r,h=>by
  unfold eA at h
  split at h
  ·rename_i hf;cases h;exact hf
  ·exact pW h
theorem pX {b:List Int} {s:au} :∀ {l:List Int},eA b s l=none→∀k∈l,jy b (eg s k)=false
 | [],_,k,hk=>by cases hk
 |a::r,h,k,hk=>by
  unfold eA at h
  split at h
  ·cases h
  ·rename_i hf
   rcases List.mem_cons.1 hk with rfl|hk
   ·simpa using hf
   ·exact pX h k hk
theorem F5 {x:XS} (h:uW x=true):x.op∈gv:=by
 have hs:=(dv h).2
 have hsh:ax x.op≠0:=by intro e;rw [e] at hs;simp [hN] at hs
 have:=gK hsh
 unfold gv
 simp only [List.mem_cons,List.not_mem_nil,or_false]
 exact this
theorem wV {b:List Int} {s:au} (hs:jx b=some s):eA b s gv=mm b:=by
 unfold mm
 cases h:eA b s gv with
 |some x=>
  have hf:=pW h
  rw [(nq hf).1,if_pos hf]
 |none=>
  split
  ·rename_i hf
   obtain ⟨_,s',hs',ha⟩:=nq hf
   rw [hs] at hs'
   obtain rfl:=Option.some.inj hs'
   have hop:=F5 (by unfold jy at hf;rw [Bool.and_eq_true] at hf;exact hf.1)
   have:=pX h _ hop
   rw [ha,hf] at this
   cases this
  ·rfl
theorem zr {b:List Int} (hs:jx b=none):mm b=none:=by
 unfold mm
 split
 ·rename_i hf
  obtain ⟨_,s',hs',_⟩:=nq hf
  rw [hs] at hs'
  cases hs'
 ·rfl
theorem Gz (l:List Int):(bD l).all isByte=true:=by simp [bD,isByte]
theorem rJ (l:List Int) (n:Nat):((bD l).take n).all isByte=true:=by
 rw [show (bD l).take n=bD (l.take n) by simp [bD,List.map_take]]
 exact Gz _
def ia:List D:= [.int .i8 1,.int .u8 137,.int .i8 0,.int .i8 3,.int .u8 199,.int .i8 0,.int .i8 1,.int .u8 1,.int .i8 0,.int .i8 1,.int .u8 9,.int .i8 0,.int .i8 1,.int .u8 33,.int .i8 0,.int .i8 1,.int .u8 41,.int .i8 0,.int .i8 1,.int .u8 49,.int .i8 0,.int .i8 1,.int .u8 57,.int .i8 0,.int .i8 1,.int .u8 133,.int .i8 0,.int .i8 3,.int .u8 129,.int .i8 0,.int .i8 3,.int .u8 129,.int .i8 1,.int .i8 3,.int .u8 129,.int .i8 4,.int .i8 3,.int .u8 129,.int .i8 5,.int .i8 3,.int .u8 129,.int .i8 6,.int .i8 3,.int .u8 129,.int .i8 7,.int .i8 3,.int .u8 247,.int .i8 0,.int .i8 2,.int .u8 175,.int .i8 0,.int .i8 4,.int .u8 193,.int .i8 4,.int .i8 4,.int .u8 193,.int .i8 5,.int .i8 4,.int .u8 193,.int .i8 7,.int .i8 5,.int .u8 211,.int .i8 4,.int .i8 5,.int .u8 211,.int .i8 5,.int .i8 5,.int .u8 211,.int .i8 7,.int .i8 5,.int .u8 247,.int .i8 3,.int .i8 5,.int .u8 247,.int .i8 6,.int .i8 6,.int .u8 64,.int .i8 0,.int .i8 7,.int .u8 139,.int .i8 0,.int .i8 8,.int .u8 137,.int .i8 0,.int .i8 9,.int .u8 233,.int .i8 0,.int .i8 10,.int .u8 128,.int .i8 0,.int .i8 11,.int .u8 195,.int .i8 0,.int .i8 11,.int .u8 5,.int .i8 0]
theorem AR (n:Nat) (hn:n<32):(ia.drop (n*3)).take 3= [D.int .i8 (ax (n:Int)),D.int .u8 (bc (n:Int)),D.int .i8 (cq (n:Int))]:=by
 have:n=0∨n=1∨n=2∨n=3∨n=4∨n=5∨n=6∨n=7∨n=8∨n=9∨n=10∨n=11∨n=12∨n=13∨n=14∨n=15∨n=16∨n=17∨n=18∨n=19∨n=20∨n=21∨n=22∨n=23∨n=24∨n=25∨n=26∨n=27∨n=28∨n=29∨n=30∨n=31:=by omega
 rcases this with rfl|rfl|rfl|rfl|rfl|rfl|rfl|rfl|rfl|rfl|rfl|rfl|rfl|rfl|rfl|rfl|rfl|rfl|rfl|rfl|rfl|rfl|rfl|rfl|rfl|rfl|rfl|rfl|rfl|rfl|rfl|rfl<;>rfl
theorem mB {k:Int} (k0:0≤k) (k1:k≤31):gB ia (k.toNat*3) 3 [D.int .i8 (ax k),D.int .u8 (bc k),D.int .i8 (cq k)]:=by
 have h:=AR k.toNat (by omega)
 have e:(k.toNat:Int)=k:=by omega
 rw [e] at h
 refine ⟨h,?_⟩
 have hl:ia.length=96:=rfl
 rw [hl]
 omega
theorem DD {l:List Int} (h:jl l):gQ l:=by
 intro x hx
 exact h x hx
theorem vE {x:XS} (h:uW x=true):gQ (fm x):=DD (tK h)
theorem Ez {own b:List Int} (ho:gQ own) (hb:gQ b):(own.isPrefixOf b=true↔((bD own).length:Int)≤((bD b).length:Int)∧((je (bD own)).toList==(je (List.take (Int.toNat ((List.length (bD own):Nat):Int)) (bD b))).toList)=true):=by
 rw [List.isPrefixOf_iff_prefix,List.prefix_iff_eq_take,aN,aN,Int.toNat_natCast,show (bD b).take own.length=bD (b.take own.length) by simp [bD,List.map_take],beq_iff_eq]
 constructor
 ·intro h
  refine ⟨?_,by rw [← h]⟩
  have:=congrArg List.length h
  rw [List.length_take] at this
  omega
 ·rintro ⟨_,h2⟩
  exact Gs ho (fun x hx=>hb x (List.mem_of_mem_take hx)) h2
theorem Ci {n:Nat} (hn:n<32):gv.drop n=(n:Int)::gv.drop (n+1):=by
 have:n=0∨n=1∨n=2∨n=3∨n=4∨n=5∨n=6∨n=7∨n=8∨n=9∨n=10∨n=11∨n=12∨n=13∨n=14∨n=15∨n=16∨n=17∨n=18∨n=19∨n=20∨n=21∨n=22∨n=23∨n=24∨n=25∨n=26∨n=27∨n=28∨n=29∨n=30∨n=31:=by omega
 rcases this with rfl|rfl|rfl|rfl|rfl|rfl|rfl|rfl|rfl|rfl|rfl|rfl|rfl|rfl|rfl|rfl|rfl|rfl|rfl|rfl|rfl|rfl|rfl|rfl|rfl|rfl|rfl|rfl|rfl|rfl|rfl|rfl<;>rfl
theorem Gt (s:au) (k:Int):(eg s k).op=k:=by
 simp only [eg,kH,apply_ite XS.op,ite_self]
def GQ:Option XS→D
  |none=> .aA [xD 0 0 0 0 0 0 0 0,.int .i64 0,.int .i64 30]
  |some x=> .aA [j9 x,.int .i64 (fm x).length,.int .i64 0]
end Go.Ev
namespace Go.Proofs.YtbfpahigdpigpaaGreat
open Go Go.Ev
theorem yK (s:au) (k:Int) (k0:0≤k) (k1:k≤31) (v0:0≤s.code) (v1:s.code≤255) (hh:s.high=0∨s.high=8) (z0 z1 z2 z3 z4 z5 z6 z8 z9:Ob):
  ai Tryz.prog 143 [.ptr false 7 0,.int .i8 (IntKind.i8.wrap k),.agg [.int .i8 (ax k),.int .u8 (bc k),.int .i8 (cq k)]]
   [z0,z1,z2,z3,z4,z5,z6,.box [.int .i8 s.w,.bool s.dQ,.int .u8 s.code,.int .i8 s.r,.int .i8 s.m,.int .i64 s.aa,.int .i64 s.af,.int .i64 s.small,.int .i64 s.eE,.int .i64 s.e9,.int .i8 s.high],z8,z9] (j9 (eg s k))
   [z0,z1,z2,z3,z4,z5,z6,.box [.int .i8 s.w,.bool s.dQ,.int .u8 s.code,.int .i8 s.r,.int .i8 s.m,.int .i64 s.aa,.int .i64 s.af,.int .i64 s.small,.int .i64 s.eE,.int .i64 s.e9,.int .i8 s.high],z8,z9,.dead,.dead,.dead]:=by
 have hw:=GI k0 k1
 have fin:∀ {sh:Int} {d:D} {S1 S2:List Ob},ax k=sh→ai Tryz.prog 143 [.ptr false 7 0,.int .i8 (IntKind.i8.wrap k),.agg [.int .i8 sh,.int .u8 (bc k),.int .i8 (cq k)]] S1 d S2→d=j9 (eg s k)→
   ai Tryz.prog 143 [.ptr false 7 0,.int .i8 (IntKind.i8.wrap k),.agg [.int .i8 (ax k),.int .u8 (bc k),.int .i8 (cq k)]] S1 (j9 (eg s k)) S2:=by
  intro sh d S1 S2 e h hd
  rw [e,← hd]
  exact h
 rcases vW k0 k1 with h|h|h|h|h|h|h|h|h|h|h
 ·exact fin h (Gy s k k0 k1 v0 v1 _ _ z0 z1 z2 z3 z4 z5 z6 z8 z9) (by simp [eg,kH,j9,h,hw])
 ·exact fin h (Gx s k k0 k1 v0 v1 _ _ z0 z1 z2 z3 z4 z5 z6 z8 z9) (by simp [eg,kH,j9,h,hw])
 ·by_cases hk:k=1
  ·by_cases hc:s.code<184
   ·exact fin h (EV s k k0 k1 v0 v1 _ _ z0 z1 z2 z3 z4 z5 z6 z8 z9 hk hc) (by simp [eg,kH,j9,h,hw];rw [if_neg (by omega)];simp)
   ·by_cases hd:s.code<192
    ·exact fin h (EU s k k0 k1 v0 v1 _ _ z0 z1 z2 z3 z4 z5 z6 z8 z9 hk (by omega) hd hh) (by simp [eg,kH,j9,h,hw];rw [if_pos (by omega)];simp)
    ·exact fin h (EW s k k0 k1 v0 v1 _ _ z0 z1 z2 z3 z4 z5 z6 z8 z9 hk (by omega)) (by simp [eg,kH,j9,h,hw];rw [if_neg (by omega)];simp)
  ·exact fin h (ET s k k0 k1 v0 v1 _ _ z0 z1 z2 z3 z4 z5 z6 z8 z9 hk) (by simp [eg,kH,j9,h,hw,hk])
 ·exact fin h (Gw s k k0 k1 v0 v1 _ _ z0 z1 z2 z3 z4 z5 z6 z8 z9) (by simp [eg,kH,j9,h,hw])
 ·exact fin h (Gv s k k0 k1 v0 v1 _ _ z0 z1 z2 z3 z4 z5 z6 z8 z9) (by simp [eg,kH,j9,h,hw])
 ·exact fin h (Gu s k k0 k1 v0 v1 _ _ z0 z1 z2 z3 z4 z5 z6 z8 z9) (by simp [eg,kH,j9,h,hw])
 ·cases hl:s.dQ
  ·refine fin h (hl▸ES s k k0 k1 v0 v1 _ _ z0 z1 z2 z3 z4 z5 z6 z8 z9 hl) (by simp [eg,kH,j9,h,hw,hl])
  ·refine fin h (hl▸ER s k k0 k1 v0 v1 _ _ z0 z1 z2 z3 z4 z5 z6 z8 z9 hl) (by simp [eg,kH,j9,h,hw,hl])
 ·by_cases hc:s.code=136
  ·exact fin h (EO s k k0 k1 v0 v1 _ _ z0 z1 z2 z3 z4 z5 z6 z8 z9 hc) (by simp [eg,kH,j9,h,hw,hc])
  ·exact fin h (EP s k k0 k1 v0 v1 _ _ z0 z1 z2 z3 z4 z5 z6 z8 z9 hc) (by simp [eg,kH,j9,h,hw,hc])
 ·cases hl:s.dQ
  ·by_cases hc:s.code=233
   ·exact fin h (hl▸EM s k k0 k1 v0 v1 _ _ z0 z1 z2 z3 z4 z5 z6 z8 z9 hl hc) (by simp [eg,kH,j9,h,hw,hc])
   ·exact fin h (hl▸EK s k k0 k1 v0 v1 _ _ z0 z1 z2 z3 z4 z5 z6 z8 z9 hl hc) (by simp [eg,kH,j9,h,hw,hl,hc])
  ·exact fin h (hl▸EN s k k0 k1 v0 v1 _ _ z0 z1 z2 z3 z4 z5 z6 z8 z9 hl) (by simp [eg,kH,j9,h,hw,hl])
 ·cases hl:s.dQ
  ·by_cases hc:s.code=233
   ·exact fin h (hl▸Dv s k k0 k1 v0 v1 _ _ z0 z1 z2 z3 z4 z5 z6 z8 z9 hl hc) (by simp [eg,kH,j9,h,hw,hc])
   ·exact fin h (hl▸Du s k k0 k1 v0 v1 _ _ z0 z1 z2 z3 z4 z5 z6 z8 z9 hl hc) (by simp [eg,kH,j9,h,hw,hl,hc])
  ·exact fin h (hl▸Dw s k k0 k1 v0 v1 _ _ z0 z1 z2 z3 z4 z5 z6 z8 z9 hl) (by simp [eg,kH,j9,h,hw,hl])
 ·exact fin h (EX s k k0 k1 v0 v1 _ _ z0 z1 z2 z3 z4 z5 z6 z8 z9) (by simp [eg,kH,j9,h,hw])
def bn:List D:= [.int .i8 1,.int .u8 137,.int .i8 0,.int .i8 3,.int .u8 199,.int .i8 0,.int .i8 1,.int .u8 1,.int .i8 0,.int .i8 1,.int .u8 9,.int .i8 0,.int .i8 1,.int .u8 33,.int .i8 0,.int .i8 1,.int .u8 41,.int .i8 0,.int .i8 1,.int .u8 49,.int .i8 0,.int .i8 1,.int .u8 57,.int .i8 0,.int .i8 1,.int .u8 133,.int .i8 0,.int .i8 3,.int .u8 129,.int .i8 0,.int .i8 3,.int .u8 129,.int .i8 1,.int .i8 3,.int .u8 129,.int .i8 4,.int .i8 3,.int .u8 129,.int .i8 5,.int .i8 3,.int .u8 129,.int .i8 6,.int .i8 3,.int .u8 129,.int .i8 7,.int .i8 3,.int .u8 247,.int .i8 0,.int .i8 2,.int .u8 175,.int .i8 0,.int .i8 4,.int .u8 193,.int .i8 4,.int .i8 4,.int .u8 193,.int .i8 5,.int .i8 4,.int .u8 193,.int .i8 7,.int .i8 5,.int .u8 211,.int .i8 4,.int .i8 5,.int .u8 211,.int .i8 5,.int .i8 5,.int .u8 211,.int .i8 7,.int .i8 5,.int .u8 247,.int .i8 3,.int .i8 5,.int .u8 247,.int .i8 6,.int .i8 6,.int .u8 64,.int .i8 0,.int .i8 7,.int .u8 139,.int .i8 0,.int .i8 8,.int .u8 137,.int .i8 0,.int .i8 9,.int .u8 233,.int .i8 0,.int .i8 10,.int .u8 128,.int .i8 0,.int .i8 11,.int .u8 195,.int .i8 0,.int .i8 11,.int .u8 5,.int .i8 0]
def cT (k0_:Int):Prop:=aE Tryz.prog 73 ([.int .i8 k0_]) (.aA [.agg [.int .i8 (ax k0_),.int .u8 (bc k0_),.int .i8 (cq k0_)],.bool true])
theorem Ee:cT 0:=by
 exact (kU (d:= .aA [.agg [.int .i8 1,.int .u8 137,.int .i8 0],.bool true]) [.inl,tT,tT,tT,tF,tF,tT,.dX bn 0 3 ([.int .i8 1,.int .u8 137,.int .i8 0]) ⟨rfl,by decide⟩] (by kernel_rfl)).to (by simp [wk,aw];decide)
theorem Ed:cT 1:=by
 exact (kU (d:= .aA [.agg [.int .i8 3,.int .u8 199,.int .i8 0],.bool true]) [.inl,tT,tT,tT,tF,tF,tT,.dX bn 3 3 ([.int .i8 3,.int .u8 199,.int .i8 0]) ⟨rfl,by decide⟩] (by kernel_rfl)).to (by simp [wk,aw];decide)
theorem Ec:cT 2:=by
 exact (kU (d:= .aA [.agg [.int .i8 1,.int .u8 1,.int .i8 0],.bool true]) [.inl,tT,tT,tT,tF,tF,tT,.dX bn 6 3 ([.int .i8 1,.int .u8 1,.int .i8 0]) ⟨rfl,by decide⟩] (by kernel_rfl)).to (by simp [wk,aw];decide)
theorem Eb:cT 3:=by
 exact (kU (d:= .aA [.agg [.int .i8 1,.int .u8 9,.int .i8 0],.bool true]) [.inl,tT,tT,tT,tF,tF,tT,.dX bn 9 3 ([.int .i8 1,.int .u8 9,.int .i8 0]) ⟨rfl,by decide⟩] (by kernel_rfl)).to (by simp [wk,aw];decide)
theorem Ea:cT 4:=by
 exact (kU (d:= .aA [.agg [.int .i8 1,.int .u8 33,.int .i8 0],.bool true]) [.inl,tT,tT,tT,tF,tF,tT,.dX bn 12 3 ([.int .i8 1,.int .u8 33,.int .i8 0]) ⟨rfl,by decide⟩] (by kernel_rfl)).to (by simp [wk,aw];decide)
theorem D9:cT 5:=by
 exact (kU (d:= .aA [.agg [.int .i8 1,.int .u8 41,.int .i8 0],.bool true]) [.inl,tT,tT,tT,tF,tF,tT,.dX bn 15 3 ([.int .i8 1,.int .u8 41,.int .i8 0]) ⟨rfl,by decide⟩] (by kernel_rfl)).to (by simp [wk,aw];decide)
theorem D8:cT 6:=by
 exact (kU (d:= .aA [.agg [.int .i8 1,.int .u8 49,.int .i8 0],.bool true]) [.inl,tT,tT,tT,tF,tF,tT,.dX bn 18 3 ([.int .i8 1,.int .u8 49,.int .i8 0]) ⟨rfl,by decide⟩] (by kernel_rfl)).to (by simp [wk,aw];decide)
theorem D7:cT 7:=by
 exact (kU (d:= .aA [.agg [.int .i8 1,.int .u8 57,.int .i8 0],.bool true]) [.inl,tT,tT,tT,tF,tF,tT,.dX bn 21 3 ([.int .i8 1,.int .u8 57,.int .i8 0]) ⟨rfl,by decide⟩] (by kernel_rfl)).to (by simp [wk,aw];decide)
theorem D6:cT 8:=by
 exact (kU (d:= .aA [.agg [.int .i8 1,.int .u8 133,.int .i8 0],.bool true]) [.inl,tT,tT,tT,tF,tF,tT,.dX bn 24 3 ([.int .i8 1,.int .u8 133,.int .i8 0]) ⟨rfl,by decide⟩] (by kernel_rfl)).to (by simp [wk,aw];decide)
theorem D5:cT 9:=by
 exact (kU (d:= .aA [.agg [.int .i8 3,.int .u8 129,.int .i8 0],.bool true]) [.inl,tT,tT,tT,tF,tF,tT,.dX bn 27 3 ([.int .i8 3,.int .u8 129,.int .i8 0]) ⟨rfl,by decide⟩] (by kernel_rfl)).to (by simp [wk,aw];decide)
theorem CJ:cT 10:=by
 exact (kU (d:= .aA [.agg [.int .i8 3,.int .u8 129,.int .i8 1],.bool true]) [.inl,tT,tT,tT,tF,tF,tT,.dX bn 30 3 ([.int .i8 3,.int .u8 129,.int .i8 1]) ⟨rfl,by decide⟩] (by kernel_rfl)).to (by simp [wk,aw];decide)
theorem CI:cT 11:=by
 exact (kU (d:= .aA [.agg [.int .i8 3,.int .u8 129,.int .i8 4],.bool true]) [.inl,tT,tT,tT,tF,tF,tT,.dX bn 33 3 ([.int .i8 3,.int .u8 129,.int .i8 4]) ⟨rfl,by decide⟩] (by kernel_rfl)).to (by simp [wk,aw];decide)
theorem CH:cT 12:=by
 exact (kU (d:= .aA [.agg [.int .i8 3,.int .u8 129,.int .i8 5],.bool true]) [.inl,tT,tT,tT,tF,tF,tT,.dX bn 36 3 ([.int .i8 3,.int .u8 129,.int .i8 5]) ⟨rfl,by decide⟩] (by kernel_rfl)).to (by simp [wk,aw];decide)
theorem CG:cT 13:=by
 exact (kU (d:= .aA [.agg [.int .i8 3,.int .u8 129,.int .i8 6],.bool true]) [.inl,tT,tT,tT,tF,tF,tT,.dX bn 39 3 ([.int .i8 3,.int .u8 129,.int .i8 6]) ⟨rfl,by decide⟩] (by kernel_rfl)).to (by simp [wk,aw];decide)
theorem CF:cT 14:=by
 exact (kU (d:= .aA [.agg [.int .i8 3,.int .u8 129,.int .i8 7],.bool true]) [.inl,tT,tT,tT,tF,tF,tT,.dX bn 42 3 ([.int .i8 3,.int .u8 129,.int .i8 7]) ⟨rfl,by decide⟩] (by kernel_rfl)).to (by simp [wk,aw];decide)
theorem CE:cT 15:=by
 exact (kU (d:= .aA [.agg [.int .i8 3,.int .u8 247,.int .i8 0],.bool true]) [.inl,tT,tT,tT,tF,tF,tT,.dX bn 45 3 ([.int .i8 3,.int .u8 247,.int .i8 0]) ⟨rfl,by decide⟩] (by kernel_rfl)).to (by simp [wk,aw];decide)
theorem CD:cT 16:=by
 exact (kU (d:= .aA [.agg [.int .i8 2,.int .u8 175,.int .i8 0],.bool true]) [.inl,tT,tT,tT,tF,tF,tT,.dX bn 48 3 ([.int .i8 2,.int .u8 175,.int .i8 0]) ⟨rfl,by decide⟩] (by kernel_rfl)).to (by simp [wk,aw];decide)
theorem CC:cT 17:=by
 exact (kU (d:= .aA [.agg [.int .i8 4,.int .u8 193,.int .i8 4],.bool true]) [.inl,tT,tT,tT,tF,tF,tT,.dX bn 51 3 ([.int .i8 4,.int .u8 193,.int .i8 4]) ⟨rfl,by decide⟩] (by kernel_rfl)).to (by simp [wk,aw];decide)
theorem CB:cT 18:=by
 exact (kU (d:= .aA [.agg [.int .i8 4,.int .u8 193,.int .i8 5],.bool true]) [.inl,tT,tT,tT,tF,tF,tT,.dX bn 54 3 ([.int .i8 4,.int .u8 193,.int .i8 5]) ⟨rfl,by decide⟩] (by kernel_rfl)).to (by simp [wk,aw];decide)
theorem CA:cT 19:=by
 exact (kU (d:= .aA [.agg [.int .i8 4,.int .u8 193,.int .i8 7],.bool true]) [.inl,tT,tT,tT,tF,tF,tT,.dX bn 57 3 ([.int .i8 4,.int .u8 193,.int .i8 7]) ⟨rfl,by decide⟩] (by kernel_rfl)).to (by simp [wk,aw];decide)
theorem Cz:cT 20:=by
 exact (kU (d:= .aA [.agg [.int .i8 5,.int .u8 211,.int .i8 4],.bool true]) [.inl,tT,tT,tT,tF,tF,tT,.dX bn 60 3 ([.int .i8 5,.int .u8 211,.int .i8 4]) ⟨rfl,by decide⟩] (by kernel_rfl)).to (by simp [wk,aw];decide)
theorem Cy:cT 21:=by
 exact (kU (d:= .aA [.agg [.int .i8 5,.int .u8 211,.int .i8 5],.bool true]) [.inl,tT,tT,tT,tF,tF,tT,.dX bn 63 3 ([.int .i8 5,.int .u8 211,.int .i8 5]) ⟨rfl,by decide⟩] (by kernel_rfl)).to (by simp [wk,aw];decide)
theorem Cx:cT 22:=by
 exact (kU (d:= .aA [.agg [.int .i8 5,.int .u8 211,.int .i8 7],.bool true]) [.inl,tT,tT,tT,tF,tF,tT,.dX bn 66 3 ([.int .i8 5,.int .u8 211,.int .i8 7]) ⟨rfl,by decide⟩] (by kernel_rfl)).to (by simp [wk,aw];decide)
theorem Cw:cT 23:=by
 exact (kU (d:= .aA [.agg [.int .i8 5,.int .u8 247,.int .i8 3],.bool true]) [.inl,tT,tT,tT,tF,tF,tT,.dX bn 69 3 ([.int .i8 5,.int .u8 247,.int .i8 3]) ⟨rfl,by decide⟩] (by kernel_rfl)).to (by simp [wk,aw];decide)
theorem Cv:cT 24:=by
 exact (kU (d:= .aA [.agg [.int .i8 5,.int .u8 247,.int .i8 6],.bool true]) [.inl,tT,tT,tT,tF,tF,tT,.dX bn 72 3 ([.int .i8 5,.int .u8 247,.int .i8 6]) ⟨rfl,by decide⟩] (by kernel_rfl)).to (by simp [wk,aw];decide)
theorem Cu:cT 25:=by
 exact (kU (d:= .aA [.agg [.int .i8 6,.int .u8 64,.int .i8 0],.bool true]) [.inl,tT,tT,tT,tF,tF,tT,.dX bn 75 3 ([.int .i8 6,.int .u8 64,.int .i8 0]) ⟨rfl,by decide⟩] (by kernel_rfl)).to (by simp [wk,aw];decide)
theorem Ct:cT 26:=by
 exact (kU (d:= .aA [.agg [.int .i8 7,.int .u8 139,.int .i8 0],.bool true]) [.inl,tT,tT,tT,tF,tF,tT,.dX bn 78 3 ([.int .i8 7,.int .u8 139,.int .i8 0]) ⟨rfl,by decide⟩] (by kernel_rfl)).to (by simp [wk,aw];decide)
theorem Cs:cT 27:=by
 exact (kU (d:= .aA [.agg [.int .i8 8,.int .u8 137,.int .i8 0],.bool true]) [.inl,tT,tT,tT,tF,tF,tT,.dX bn 81 3 ([.int .i8 8,.int .u8 137,.int .i8 0]) ⟨rfl,by decide⟩] (by kernel_rfl)).to (by simp [wk,aw];decide)
theorem Cr:cT 28:=by
 exact (kU (d:= .aA [.agg [.int .i8 9,.int .u8 233,.int .i8 0],.bool true]) [.inl,tT,tT,tT,tF,tF,tT,.dX bn 84 3 ([.int .i8 9,.int .u8 233,.int .i8 0]) ⟨rfl,by decide⟩] (by kernel_rfl)).to (by simp [wk,aw];decide)
theorem Cq:cT 29:=by
 exact (kU (d:= .aA [.agg [.int .i8 10,.int .u8 128,.int .i8 0],.bool true]) [.inl,tT,tT,tT,tF,tF,tT,.dX bn 87 3 ([.int .i8 10,.int .u8 128,.int .i8 0]) ⟨rfl,by decide⟩] (by kernel_rfl)).to (by simp [wk,aw];decide)
theorem Cp:cT 30:=by
 exact (kU (d:= .aA [.agg [.int .i8 11,.int .u8 195,.int .i8 0],.bool true]) [.inl,tT,tT,tT,tF,tF,tT,.dX bn 90 3 ([.int .i8 11,.int .u8 195,.int .i8 0]) ⟨rfl,by decide⟩] (by kernel_rfl)).to (by simp [wk,aw];decide)
theorem Co:cT 31:=by
 exact (kU (d:= .aA [.agg [.int .i8 11,.int .u8 5,.int .i8 0],.bool true]) [.inl,tT,tT,tT,tF,tF,tT,.dX bn 93 3 ([.int .i8 11,.int .u8 5,.int .i8 0]) ⟨rfl,by decide⟩] (by kernel_rfl)).to (by simp [wk,aw];decide)
theorem Ah (op:Int) (h:op<0):aE Tryz.prog 73 ([.int .i8 op]) (.aA [.agg [.int .i8 0,.int .u8 0,.int .i8 0],.bool false]):=by
 exact (kU (d:= .aA [.agg [.int .i8 0,.int .u8 0,.int .i8 0],.bool false]) ([.inl]++List.replicate 3 (tC (eF (decide_eq_true h)))++ [tC (decide_eq_true h),tT]) (by kernel_rfl)).to (by simp [wk,aw])
theorem wz (op:Int) (h:32≤op) (ho:op≤127):aE Tryz.prog 73 ([.int .i8 op]) (.aA [.agg [.int .i8 0,.int .u8 0,.int .i8 0],.bool false]):=by
 exact (kU (d:= .aA [.agg [.int .i8 0,.int .u8 0,.int .i8 0],.bool false]) ([.inl]++List.replicate 3 (tC (eF (l8 0 (decide_eq_false (Int.not_lt.2 h)))))++ [tC (l8 0 (decide_eq_false (Int.not_lt.2 h))),tC (bR 32 (by (simp only [dK] at*;omega):(decide (IntKind.wrap IntKind.i64 op<32))=false))]) (by kernel_rfl)).to (by simp [wk,aw])
theorem cI (n:Int):aE Tryz.prog 99 ([.int .i8 n]) (.bool (bl n)):=by
 rcases dT (decide (n<0)) with h0|h0
 ·exact (H3 (d:= .bool false) [tC (eT (bR 0 h0)),tC (eT (bR 0 h0)),tC (bR 0 h0)] (by kernel_rfl)).to (by (try simp only [cB,wk,aw,aM,ab,ak,bl,ff,bh,a8] at*);first|(simp [wk,aw,aM,ab,ak,bl,ff,bh,a8, *];done)|(simp [wk,aw,aM,ab,ak,bl,ff,bh,a8, *];omega)|(rw [Bool.eq_iff_iff];simp [wk,aw,aM,ab,ak,bl,ff,bh,a8, *];done)|(rw [Bool.eq_iff_iff];simp [wk,aw,aM,ab,ak,bl,ff,bh,a8, *];omega)|(rw [Bool.eq_iff_iff];simp [wk,aw,aM,ab,ak,bl,ff,bh,a8, *];grind)|(subst_vars;rw [Bool.eq_iff_iff];simp;grind))
 exact (H3 (d:= .bool (decide (n<16))) [tC (eT (bR 0 h0)),tC (eT (bR 0 h0)),tC (bR 0 h0)] (by kernel_rfl)).to (by (try simp only [cB,wk,aw,aM,ab,ak,bl,ff,bh,a8] at*);first|(simp [wk,aw,aM,ab,ak,bl,ff,bh,a8, *];done)|(simp [wk,aw,aM,ab,ak,bl,ff,bh,a8, *];omega)|(rw [Bool.eq_iff_iff];simp [wk,aw,aM,ab,ak,bl,ff,bh,a8, *];done)|(rw [Bool.eq_iff_iff];simp [wk,aw,aM,ab,ak,bl,ff,bh,a8, *];omega)|(rw [Bool.eq_iff_iff];simp [wk,aw,aM,ab,ak,bl,ff,bh,a8, *];grind)|(subst_vars;rw [Bool.eq_iff_iff];simp;grind))
theorem oD (n:Int):aE Tryz.prog 101 ([.int .i8 n]) (.bool (ff n)):=by
 rcases dT (decide (n<2)) with h0|h0
 ·exact (Eh (d:= .bool false) [tC (eT (bR 2 h0)),tC (eT (bR 2 h0)),tC (bR 2 h0),tT,tT,tT,tC (eT (bR 12 (AF 12 h0))),tC (eT (bR 12 (AF 12 h0))),tT,tC (bR 12 (AF 12 h0)),tF] (by kernel_rfl)).to (by (try simp only [cB,wk,aw,aM,ab,ak,bl,ff,bh,a8] at*);first|(simp [wk,aw,aM,ab,ak,bl,ff,bh,a8, *];done)|(simp [wk,aw,aM,ab,ak,bl,ff,bh,a8, *];omega)|(rw [Bool.eq_iff_iff];simp [wk,aw,aM,ab,ak,bl,ff,bh,a8, *];done)|(rw [Bool.eq_iff_iff];simp [wk,aw,aM,ab,ak,bl,ff,bh,a8, *];omega)|(rw [Bool.eq_iff_iff];simp [wk,aw,aM,ab,ak,bl,ff,bh,a8, *];grind)|(subst_vars;rw [Bool.eq_iff_iff];simp;grind))
 let E1:EL:= [tC (eT (bR 2 h0)),tC (eT (bR 2 h0)),tC (bR 2 h0)]
 rcases dT (decide (n<8)) with h1|h1
 ·exact (Eh (d:= .bool true) (E1++List.replicate 4 (tC (eF (dC 7 h1)))++ [tC (dC 7 h1)]) (by kernel_rfl)).to (by clear E1;(try simp only [cB,wk,aw,aM,ab,ak,bl,ff,bh,a8] at*);first|(simp [wk,aw,aM,ab,ak,bl,ff,bh,a8, *];done)|(simp [wk,aw,aM,ab,ak,bl,ff,bh,a8, *];omega)|(rw [Bool.eq_iff_iff];simp [wk,aw,aM,ab,ak,bl,ff,bh,a8, *];done)|(rw [Bool.eq_iff_iff];simp [wk,aw,aM,ab,ak,bl,ff,bh,a8, *];omega)|(rw [Bool.eq_iff_iff];simp [wk,aw,aM,ab,ak,bl,ff,bh,a8, *];grind)|(subst_vars;rw [Bool.eq_iff_iff];simp;grind))
 rcases dT (decide (n<12)) with h2|h2
 ·exact (Eh (d:= .bool false) (E1++List.replicate 3 (tC (eF (dC 7 h1)))++ [tC (eT (bR 12 h2)),tC (eT (bR 12 h2)),tC (eF (dC 7 h1)),tC (bR 12 h2),tC (dC 7 h1)]) (by kernel_rfl)).to (by clear E1;(try simp only [cB,wk,aw,aM,ab,ak,bl,ff,bh,a8] at*);first|(simp [wk,aw,aM,ab,ak,bl,ff,bh,a8, *];done)|(simp [wk,aw,aM,ab,ak,bl,ff,bh,a8, *];omega)|(rw [Bool.eq_iff_iff];simp [wk,aw,aM,ab,ak,bl,ff,bh,a8, *];done)|(rw [Bool.eq_iff_iff];simp [wk,aw,aM,ab,ak,bl,ff,bh,a8, *];omega)|(rw [Bool.eq_iff_iff];simp [wk,aw,aM,ab,ak,bl,ff,bh,a8, *];grind)|(subst_vars;rw [Bool.eq_iff_iff];simp;grind))
 exact (Eh (d:= .bool (decide (n≤15))) (E1++List.replicate 3 (tC (eF (dC 7 h1)))++ [tC (eT (bR 12 h2)),tC (eT (bR 12 h2)),tC (eF (dC 7 h1)),tC (bR 12 h2),tC (dC 7 h1)]) (by kernel_rfl)).to (by clear E1;(try simp only [cB,wk,aw,aM,ab,ak,bl,ff,bh,a8] at*);first|(simp [wk,aw,aM,ab,ak,bl,ff,bh,a8, *];done)|(simp [wk,aw,aM,ab,ak,bl,ff,bh,a8, *];omega)|(rw [Bool.eq_iff_iff];simp [wk,aw,aM,ab,ak,bl,ff,bh,a8, *];done)|(rw [Bool.eq_iff_iff];simp [wk,aw,aM,ab,ak,bl,ff,bh,a8, *];omega)|(rw [Bool.eq_iff_iff];simp [wk,aw,aM,ab,ak,bl,ff,bh,a8, *];grind)|(subst_vars;rw [Bool.eq_iff_iff];simp;grind))
theorem bg (n a b:Int):aE Tryz.prog 100 ([.int .i64 n,.int .i64 a,.int .i64 b]) (.bool (decide (a≤n)&&decide (n≤b))):=by
 rcases dT (decide (n≥a)) with h0|h0
 ·exact (G0 (d:= .bool (decide (n≤b))) [tC (eT h0),tC (eT h0),tC (eT h0),tC h0] (by kernel_rfl)).to (by (try simp only [cB,wk,aw,aM,ab,ak,bl,ff,bh,a8] at*);(simp [wk,aw,aM,ab,ak,bl,ff,bh,a8, *];done))
 exact (G0 (d:= .bool false) [tC (eT h0),tC (eT h0),tC (eT h0),tC h0] (by kernel_rfl)).to (by (try simp only [cB,wk,aw,aM,ab,ak,bl,ff,bh,a8] at*);(simp [wk,aw,aM,ab,ak,bl,ff,bh,a8, *];done))
theorem jq (n:Int):aE Tryz.prog 102 ([.int .i8 n]) (.bool (bh n)):=by
 by_cases h0:n=8
 ·subst h0
  exact (CL (d:= .bool true) [tT,tT] (by kernel_rfl)).to (by (try simp only [cB,wk,aw,aM,ab,ak,bl,ff,bh,a8] at*);(simp [wk,aw,aM,ab,ak,bl,ff,bh,a8, *];done))
 by_cases h1:n=16
 ·subst h1
  exact (CL (d:= .bool true) [tC (av h0),tT,tT] (by kernel_rfl)).to (by (try simp only [cB,wk,aw,aM,ab,ak,bl,ff,bh,a8] at*);(simp [wk,aw,aM,ab,ak,bl,ff,bh,a8, *];done))
 by_cases h2:n=32
 ·subst h2
  exact (CL (d:= .bool true) [tC (av h0),tC (av h1),tT,tT] (by kernel_rfl)).to (by (try simp only [cB,wk,aw,aM,ab,ak,bl,ff,bh,a8] at*);(simp [wk,aw,aM,ab,ak,bl,ff,bh,a8, *];done))
 by_cases h3:n=64
 ·subst h3
  exact (CL (d:= .bool true) [tC (av h0),tC (av h1),tC (av h2),tT] (by kernel_rfl)).to (by (try simp only [cB,wk,aw,aM,ab,ak,bl,ff,bh,a8] at*);(simp [wk,aw,aM,ab,ak,bl,ff,bh,a8, *];done))
 exact (CL (d:= .bool false) [tC (av h0),tC (av h1),tC (av h2),tC (av h3)] (by kernel_rfl)).to (by (try simp only [cB,wk,aw,aM,ab,ak,bl,ff,bh,a8] at*);(simp [wk,aw,aM,ab,ak,bl,ff,bh,a8, *];done))
theorem xU (op w dst src base aa af cc:Int):aE Tryz.prog 98 ([xD op w dst src base aa af cc,.int .i8 1]) (xD 0 0 0 0 base aa af cc):=by
 let E1:EL:= [tT,tT,tT,tT,tF,tF,.flat _ _ eh]
 by_cases h0:base=0
 ·subst h0
  by_cases h1:aa=0
  ·subst h1
   by_cases h2:af=0
   ·subst h2
    by_cases h3:cc=0
    ·subst h3
     exact (gC (d:=(xD 0 0 0 0 0 0 0 0)) (E1++ [tF]) (by kernel_rfl)).to (by (simp [wk,aw,];done))
    exact (gC (d:=(xD 0 0 0 0 0 0 0 cc)) (E1++ [tC (nt (ay rfl (ay rfl (ay rfl (ay rfl (ay rfl (ay rfl (ay rfl (cj (y:=true) (av h3))))))))))]) (by kernel_rfl)).to (by (simp [wk,aw,h3];done))
   exact (gC (d:=(xD 0 0 0 0 0 0 af cc)) (E1++ [tC (nt (ay rfl (ay rfl (ay rfl (ay rfl (ay rfl (ay rfl (cj (y:=ab [.int .i8 cc] [.int .i8 0]) (av h2)))))))))]) (by kernel_rfl)).to (by (simp [wk,aw,h2];done))
  exact (gC (d:=(xD 0 0 0 0 0 aa af cc)) (E1++ [tC (nt (ay rfl (ay rfl (ay rfl (ay rfl (ay rfl (cj (y:=ab [.int .i64 af,.int .i8 cc] [.int .i64 0,.int .i8 0]) (av h1))))))))]) (by kernel_rfl)).to (by (simp [wk,aw,h1];done))
 exact (gC (d:=(xD 0 0 0 0 base aa af cc)) (E1++ [tC (nt (ay rfl (ay rfl (ay rfl (ay rfl (cj (y:=ab [.int .i64 aa,.int .i64 af,.int .i8 cc] [.int .i64 0,.int .i64 0,.int .i8 0]) (av h0)))))))]) (by kernel_rfl)).to (by (simp [wk,aw,h0];done))
theorem xS (op w dst src base aa af cc:Int):aE Tryz.prog 98 ([xD op w dst src base aa af cc,.int .i8 2]) (xD 0 0 0 0 base aa af cc):=by
 let E1:EL:= [tF,tT,tT,tT,tT,tF,tF,.flat _ _ eh]
 by_cases h0:base=0
 ·subst h0
  by_cases h1:aa=0
  ·subst h1
   by_cases h2:af=0
   ·subst h2
    by_cases h3:cc=0
    ·subst h3
     exact (gC (d:=(xD 0 0 0 0 0 0 0 0)) (E1++ [tF]) (by kernel_rfl)).to (by (simp [wk,aw,];done))
    exact (gC (d:=(xD 0 0 0 0 0 0 0 cc)) (E1++ [tC (nt (ay rfl (ay rfl (ay rfl (ay rfl (ay rfl (ay rfl (ay rfl (cj (y:=true) (av h3))))))))))]) (by kernel_rfl)).to (by (simp [wk,aw,h3];done))
   exact (gC (d:=(xD 0 0 0 0 0 0 af cc)) (E1++ [tC (nt (ay rfl (ay rfl (ay rfl (ay rfl (ay rfl (ay rfl (cj (y:=ab [.int .i8 cc] [.int .i8 0]) (av h2)))))))))]) (by kernel_rfl)).to (by (simp [wk,aw,h2];done))
  exact (gC (d:=(xD 0 0 0 0 0 aa af cc)) (E1++ [tC (nt (ay rfl (ay rfl (ay rfl (ay rfl (ay rfl (cj (y:=ab [.int .i64 af,.int .i8 cc] [.int .i64 0,.int .i8 0]) (av h1))))))))]) (by kernel_rfl)).to (by (simp [wk,aw,h1];done))
 exact (gC (d:=(xD 0 0 0 0 base aa af cc)) (E1++ [tC (nt (ay rfl (ay rfl (ay rfl (ay rfl (cj (y:=ab [.int .i64 aa,.int .i64 af,.int .i8 cc] [.int .i64 0,.int .i64 0,.int .i8 0]) (av h0)))))))]) (by kernel_rfl)).to (by (simp [wk,aw,h0];done))
theorem xR (op w dst src base aa af cc:Int):aE Tryz.prog 98 ([xD op w dst src base aa af cc,.int .i8 3]) (xD 0 0 0 src base aa 0 cc):=by
 let E1:EL:= [tF,tF,tF,tT,tT,tT,tT,tF,tF,.flat _ _ eh]
 by_cases h0:src=0
 ·subst h0
  by_cases h1:base=0
  ·subst h1
   by_cases h2:aa=0
   ·subst h2
    by_cases h3:cc=0
    ·subst h3
     exact (gC (d:=(xD 0 0 0 0 0 0 0 0)) (E1++ [tF]) (by kernel_rfl)).to (by (simp [wk,aw,];done))
    exact (gC (d:=(xD 0 0 0 0 0 0 0 cc)) (E1++ [tC (nt (ay rfl (ay rfl (ay rfl (ay rfl (ay rfl (ay rfl (ay rfl (cj (y:=true) (av h3))))))))))]) (by kernel_rfl)).to (by (simp [wk,aw,h3];done))
   exact (gC (d:=(xD 0 0 0 0 0 aa 0 cc)) (E1++ [tC (nt (ay rfl (ay rfl (ay rfl (ay rfl (ay rfl (cj (y:=ab [.int .i64 0,.int .i8 cc] [.int .i64 0,.int .i8 0]) (av h2))))))))]) (by kernel_rfl)).to (by (simp [wk,aw,h2];done))
  exact (gC (d:=(xD 0 0 0 0 base aa 0 cc)) (E1++ [tC (nt (ay rfl (ay rfl (ay rfl (ay rfl (cj (y:=ab [.int .i64 aa,.int .i64 0,.int .i8 cc] [.int .i64 0,.int .i64 0,.int .i8 0]) (av h1)))))))]) (by kernel_rfl)).to (by (simp [wk,aw,h1];done))
 exact (gC (d:=(xD 0 0 0 src base aa 0 cc)) (E1++ [tC (nt (ay rfl (ay rfl (ay rfl (cj (y:=ab [.int .i8 base,.int .i64 aa,.int .i64 0,.int .i8 cc] [.int .i8 0,.int .i64 0,.int .i64 0,.int .i8 0]) (av h0))))))]) (by kernel_rfl)).to (by (simp [wk,aw,h0];done))
theorem xQ (op w dst src base aa af cc:Int):aE Tryz.prog 98 ([xD op w dst src base aa af cc,.int .i8 4]) (xD 0 0 0 src base aa 0 cc):=by
 let E1:EL:= [tF,tF,tF,tF,tT,tT,tT,tF,tF,.flat _ _ eh]
 by_cases h0:src=0
 ·subst h0
  by_cases h1:base=0
  ·subst h1
   by_cases h2:aa=0
   ·subst h2
    by_cases h3:cc=0
    ·subst h3
     exact (gC (d:=(xD 0 0 0 0 0 0 0 0)) (E1++ [tF]) (by kernel_rfl)).to (by (simp [wk,aw,];done))
    exact (gC (d:=(xD 0 0 0 0 0 0 0 cc)) (E1++ [tC (nt (ay rfl (ay rfl (ay rfl (ay rfl (ay rfl (ay rfl (ay rfl (cj (y:=true) (av h3))))))))))]) (by kernel_rfl)).to (by (simp [wk,aw,h3];done))
   exact (gC (d:=(xD 0 0 0 0 0 aa 0 cc)) (E1++ [tC (nt (ay rfl (ay rfl (ay rfl (ay rfl (ay rfl (cj (y:=ab [.int .i64 0,.int .i8 cc] [.int .i64 0,.int .i8 0]) (av h2))))))))]) (by kernel_rfl)).to (by (simp [wk,aw,h2];done))
  exact (gC (d:=(xD 0 0 0 0 base aa 0 cc)) (E1++ [tC (nt (ay rfl (ay rfl (ay rfl (ay rfl (cj (y:=ab [.int .i64 aa,.int .i64 0,.int .i8 cc] [.int .i64 0,.int .i64 0,.int .i8 0]) (av h1)))))))]) (by kernel_rfl)).to (by (simp [wk,aw,h1];done))
 exact (gC (d:=(xD 0 0 0 src base aa 0 cc)) (E1++ [tC (nt (ay rfl (ay rfl (ay rfl (cj (y:=ab [.int .i8 base,.int .i64 aa,.int .i64 0,.int .i8 cc] [.int .i8 0,.int .i64 0,.int .i64 0,.int .i8 0]) (av h0))))))]) (by kernel_rfl)).to (by (simp [wk,aw,h0];done))
theorem xP (op w dst src base aa af cc:Int):aE Tryz.prog 98 ([xD op w dst src base aa af cc,.int .i8 5]) (xD 0 0 0 src base aa af cc):=by
 let E1:EL:= [tF,tF,tF,tF,tF,tT,tT,tT,tF,tF,.flat _ _ eh]
 by_cases h0:src=0
 ·subst h0
  by_cases h1:base=0
  ·subst h1
   by_cases h2:aa=0
   ·subst h2
    by_cases h3:af=0
    ·subst h3
     by_cases h4:cc=0
     ·subst h4
      exact (gC (d:=(xD 0 0 0 0 0 0 0 0)) (E1++ [tF]) (by kernel_rfl)).to (by (simp [wk,aw,];done))
     exact (gC (d:=(xD 0 0 0 0 0 0 0 cc)) (E1++ [tC (nt (ay rfl (ay rfl (ay rfl (ay rfl (ay rfl (ay rfl (ay rfl (cj (y:=true) (av h4))))))))))]) (by kernel_rfl)).to (by (simp [wk,aw,h4];done))
    exact (gC (d:=(xD 0 0 0 0 0 0 af cc)) (E1++ [tC (nt (ay rfl (ay rfl (ay rfl (ay rfl (ay rfl (ay rfl (cj (y:=ab [.int .i8 cc] [.int .i8 0]) (av h3)))))))))]) (by kernel_rfl)).to (by (simp [wk,aw,h3];done))
   exact (gC (d:=(xD 0 0 0 0 0 aa af cc)) (E1++ [tC (nt (ay rfl (ay rfl (ay rfl (ay rfl (ay rfl (cj (y:=ab [.int .i64 af,.int .i8 cc] [.int .i64 0,.int .i8 0]) (av h2))))))))]) (by kernel_rfl)).to (by (simp [wk,aw,h2];done))
  exact (gC (d:=(xD 0 0 0 0 base aa af cc)) (E1++ [tC (nt (ay rfl (ay rfl (ay rfl (ay rfl (cj (y:=ab [.int .i64 aa,.int .i64 af,.int .i8 cc] [.int .i64 0,.int .i64 0,.int .i8 0]) (av h1)))))))]) (by kernel_rfl)).to (by (simp [wk,aw,h1];done))
 exact (gC (d:=(xD 0 0 0 src base aa af cc)) (E1++ [tC (nt (ay rfl (ay rfl (ay rfl (cj (y:=ab [.int .i8 base,.int .i64 aa,.int .i64 af,.int .i8 cc] [.int .i8 0,.int .i64 0,.int .i64 0,.int .i8 0]) (av h0))))))]) (by kernel_rfl)).to (by (simp [wk,aw,h0];done))
theorem xO (op w dst src base aa af cc:Int):aE Tryz.prog 98 ([xD op w dst src base aa af cc,.int .i8 6]) (xD 0 0 0 0 base aa af 0):=by
 let E1:EL:= [tF,tF,tT,tF,tF,tT,tT,.flat _ _ eh]
 by_cases h0:base=0
 ·subst h0
  by_cases h1:aa=0
  ·subst h1
   by_cases h2:af=0
   ·subst h2
    exact (gC (d:=(xD 0 0 0 0 0 0 0 0)) (E1++ [tF]) (by kernel_rfl)).to (by (simp [wk,aw,];done))
   exact (gC (d:=(xD 0 0 0 0 0 0 af 0)) (E1++ [tC (nt (ay rfl (ay rfl (ay rfl (ay rfl (ay rfl (ay rfl (cj (y:=true) (av h2)))))))))]) (by kernel_rfl)).to (by (simp [wk,aw,h2];done))
  exact (gC (d:=(xD 0 0 0 0 0 aa af 0)) (E1++ [tC (nt (ay rfl (ay rfl (ay rfl (ay rfl (ay rfl (cj (y:=ab [.int .i64 af,.int .i8 0] [.int .i64 0,.int .i8 0]) (av h1))))))))]) (by kernel_rfl)).to (by (simp [wk,aw,h1];done))
 exact (gC (d:=(xD 0 0 0 0 base aa af 0)) (E1++ [tC (nt (ay rfl (ay rfl (ay rfl (ay rfl (cj (y:=ab [.int .i64 aa,.int .i64 af,.int .i8 0] [.int .i64 0,.int .i64 0,.int .i8 0]) (av h0)))))))]) (by kernel_rfl)).to (by (simp [wk,aw,h0];done))
theorem xN (op w dst src base aa af cc:Int):aE Tryz.prog 98 ([xD op w dst src base aa af cc,.int .i8 7]) (xD 0 0 0 src 0 0 af cc):=by
 let E1:EL:= [tF,tF,tF,tF,tF,tF,tT,tT,tT,tF,tF,.flat _ _ eh]
 by_cases h0:src=0
 ·subst h0
  by_cases h1:af=0
  ·subst h1
   by_cases h2:cc=0
   ·subst h2
    exact (gC (d:=(xD 0 0 0 0 0 0 0 0)) (E1++ [tF]) (by kernel_rfl)).to (by (simp [wk,aw,];done))
   exact (gC (d:=(xD 0 0 0 0 0 0 0 cc)) (E1++ [tC (nt (ay rfl (ay rfl (ay rfl (ay rfl (ay rfl (ay rfl (ay rfl (cj (y:=true) (av h2))))))))))]) (by kernel_rfl)).to (by (simp [wk,aw,h2];done))
  exact (gC (d:=(xD 0 0 0 0 0 0 af cc)) (E1++ [tC (nt (ay rfl (ay rfl (ay rfl (ay rfl (ay rfl (ay rfl (cj (y:=ab [.int .i8 cc] [.int .i8 0]) (av h1)))))))))]) (by kernel_rfl)).to (by (simp [wk,aw,h1];done))
 exact (gC (d:=(xD 0 0 0 src 0 0 af cc)) (E1++ [tC (nt (ay rfl (ay rfl (ay rfl (cj (y:=ab [.int .i8 0,.int .i64 0,.int .i64 af,.int .i8 cc] [.int .i8 0,.int .i64 0,.int .i64 0,.int .i8 0]) (av h0))))))]) (by kernel_rfl)).to (by (simp [wk,aw,h0];done))
theorem xM (op w dst src base aa af cc:Int):aE Tryz.prog 98 ([xD op w dst src base aa af cc,.int .i8 8]) (xD 0 0 dst 0 0 0 af cc):=by
 let E1:EL:= [tF,tF,tF,tF,tF,tF,tF,tT,tT,tT,tF,tF,.flat _ _ eh]
 by_cases h0:dst=0
 ·subst h0
  by_cases h1:af=0
  ·subst h1
   by_cases h2:cc=0
   ·subst h2
    exact (gC (d:=(xD 0 0 0 0 0 0 0 0)) (E1++ [tF]) (by kernel_rfl)).to (by (simp [wk,aw,];done))
   exact (gC (d:=(xD 0 0 0 0 0 0 0 cc)) (E1++ [tC (nt (ay rfl (ay rfl (ay rfl (ay rfl (ay rfl (ay rfl (ay rfl (cj (y:=true) (av h2))))))))))]) (by kernel_rfl)).to (by (simp [wk,aw,h2];done))
  exact (gC (d:=(xD 0 0 0 0 0 0 af cc)) (E1++ [tC (nt (ay rfl (ay rfl (ay rfl (ay rfl (ay rfl (ay rfl (cj (y:=ab [.int .i8 cc] [.int .i8 0]) (av h1)))))))))]) (by kernel_rfl)).to (by (simp [wk,aw,h1];done))
 exact (gC (d:=(xD 0 0 dst 0 0 0 af cc)) (E1++ [tC (nt (ay rfl (ay rfl (cj (y:=ab [.int .i8 0,.int .i8 0,.int .i64 0,.int .i64 af,.int .i8 cc] [.int .i8 0,.int .i8 0,.int .i64 0,.int .i64 0,.int .i8 0]) (av h0)))))]) (by kernel_rfl)).to (by (simp [wk,aw,h0];done))
theorem xL (op w dst src base aa af cc:Int):aE Tryz.prog 98 ([xD op w dst src base aa af cc,.int .i8 9]) (xD 0 0 dst src base aa 0 cc):=by
 let E1:EL:=(List.replicate 8 tF++ [tT,tT,tT,tT,tF,tF,.flat _ _ eh])
 by_cases h0:dst=0
 ·subst h0
  by_cases h1:src=0
  ·subst h1
   by_cases h2:base=0
   ·subst h2
    by_cases h3:aa=0
    ·subst h3
     by_cases h4:cc=0
     ·subst h4
      exact (gC (d:=(xD 0 0 0 0 0 0 0 0)) (E1++ [tF]) (by kernel_rfl)).to (by (simp [wk,aw,];done))
     exact (gC (d:=(xD 0 0 0 0 0 0 0 cc)) (E1++ [tC (nt (ay rfl (ay rfl (ay rfl (ay rfl (ay rfl (ay rfl (ay rfl (cj (y:=true) (av h4))))))))))]) (by kernel_rfl)).to (by (simp [wk,aw,h4];done))
    exact (gC (d:=(xD 0 0 0 0 0 aa 0 cc)) (E1++ [tC (nt (ay rfl (ay rfl (ay rfl (ay rfl (ay rfl (cj (y:=ab [.int .i64 0,.int .i8 cc] [.int .i64 0,.int .i8 0]) (av h3))))))))]) (by kernel_rfl)).to (by (simp [wk,aw,h3];done))
   exact (gC (d:=(xD 0 0 0 0 base aa 0 cc)) (E1++ [tC (nt (ay rfl (ay rfl (ay rfl (ay rfl (cj (y:=ab [.int .i64 aa,.int .i64 0,.int .i8 cc] [.int .i64 0,.int .i64 0,.int .i8 0]) (av h2)))))))]) (by kernel_rfl)).to (by (simp [wk,aw,h2];done))
  exact (gC (d:=(xD 0 0 0 src base aa 0 cc)) (E1++ [tC (nt (ay rfl (ay rfl (ay rfl (cj (y:=ab [.int .i8 base,.int .i64 aa,.int .i64 0,.int .i8 cc] [.int .i8 0,.int .i64 0,.int .i64 0,.int .i8 0]) (av h1))))))]) (by kernel_rfl)).to (by (simp [wk,aw,h1];done))
 exact (gC (d:=(xD 0 0 dst src base aa 0 cc)) (E1++ [tC (nt (ay rfl (ay rfl (cj (y:=ab [.int .i8 src,.int .i8 base,.int .i64 aa,.int .i64 0,.int .i8 cc] [.int .i8 0,.int .i8 0,.int .i64 0,.int .i64 0,.int .i8 0]) (av h0)))))]) (by kernel_rfl)).to (by (simp [wk,aw,h0];done))
theorem vN (op w dst src base aa af cc:Int):aE Tryz.prog 98 ([xD op w dst src base aa af cc,.int .i8 10]) (xD 0 0 dst src base aa 0 0):=by
 let E1:EL:=(List.replicate 9 tF++ [tT,tT,tT,tF,tT,.flat _ _ eh])
 by_cases h0:dst=0
 ·subst h0
  by_cases h1:src=0
  ·subst h1
   by_cases h2:base=0
   ·subst h2
    by_cases h3:aa=0
    ·subst h3
     exact (gC (d:=(xD 0 0 0 0 0 0 0 0)) (E1++ [tF]) (by kernel_rfl)).to (by (simp [wk,aw,];done))
    exact (gC (d:=(xD 0 0 0 0 0 aa 0 0)) (E1++ [tC (nt (ay rfl (ay rfl (ay rfl (ay rfl (ay rfl (cj (y:=true) (av h3))))))))]) (by kernel_rfl)).to (by (simp [wk,aw,h3];done))
   exact (gC (d:=(xD 0 0 0 0 base aa 0 0)) (E1++ [tC (nt (ay rfl (ay rfl (ay rfl (ay rfl (cj (y:=ab [.int .i64 aa,.int .i64 0,.int .i8 0] [.int .i64 0,.int .i64 0,.int .i8 0]) (av h2)))))))]) (by kernel_rfl)).to (by (simp [wk,aw,h2];done))
  exact (gC (d:=(xD 0 0 0 src base aa 0 0)) (E1++ [tC (nt (ay rfl (ay rfl (ay rfl (cj (y:=ab [.int .i8 base,.int .i64 aa,.int .i64 0,.int .i8 0] [.int .i8 0,.int .i64 0,.int .i64 0,.int .i8 0]) (av h1))))))]) (by kernel_rfl)).to (by (simp [wk,aw,h1];done))
 exact (gC (d:=(xD 0 0 dst src base aa 0 0)) (E1++ [tC (nt (ay rfl (ay rfl (cj (y:=ab [.int .i8 src,.int .i8 base,.int .i64 aa,.int .i64 0,.int .i8 0] [.int .i8 0,.int .i8 0,.int .i64 0,.int .i64 0,.int .i8 0]) (av h0)))))]) (by kernel_rfl)).to (by (simp [wk,aw,h0];done))
theorem vM (op w dst src base aa af cc:Int):aE Tryz.prog 98 ([xD op w dst src base aa af cc,.int .i8 11]) (xD 0 w dst src base aa af cc):=by
 let E1:EL:=(List.replicate 10 tF++ [tT,tT,tF,tF,.flat _ _ eh])
 by_cases h0:w=0
 ·subst h0
  by_cases h1:dst=0
  ·subst h1
   by_cases h2:src=0
   ·subst h2
    by_cases h3:base=0
    ·subst h3
     by_cases h4:aa=0
     ·subst h4
      by_cases h5:af=0
      ·subst h5
       by_cases h6:cc=0
       ·subst h6
        exact (gC (d:=(xD 0 0 0 0 0 0 0 0)) (E1++ [tF]) (by kernel_rfl)).to (by (simp [wk,aw,];done))
       exact (gC (d:=(xD 0 0 0 0 0 0 0 cc)) (E1++ [tC (nt (ay rfl (ay rfl (ay rfl (ay rfl (ay rfl (ay rfl (ay rfl (cj (y:=true) (av h6))))))))))]) (by kernel_rfl)).to (by (simp [wk,aw,h6];done))
      exact (gC (d:=(xD 0 0 0 0 0 0 af cc)) (E1++ [tC (nt (ay rfl (ay rfl (ay rfl (ay rfl (ay rfl (ay rfl (cj (y:=ab [.int .i8 cc] [.int .i8 0]) (av h5)))))))))]) (by kernel_rfl)).to (by (simp [wk,aw,h5];done))
     exact (gC (d:=(xD 0 0 0 0 0 aa af cc)) (E1++ [tC (nt (ay rfl (ay rfl (ay rfl (ay rfl (ay rfl (cj (y:=ab [.int .i64 af,.int .i8 cc] [.int .i64 0,.int .i8 0]) (av h4))))))))]) (by kernel_rfl)).to (by (simp [wk,aw,h4];done))
    exact (gC (d:=(xD 0 0 0 0 base aa af cc)) (E1++ [tC (nt (ay rfl (ay rfl (ay rfl (ay rfl (cj (y:=ab [.int .i64 aa,.int .i64 af,.int .i8 cc] [.int .i64 0,.int .i64 0,.int .i8 0]) (av h3)))))))]) (by kernel_rfl)).to (by (simp [wk,aw,h3];done))
   exact (gC (d:=(xD 0 0 0 src base aa af cc)) (E1++ [tC (nt (ay rfl (ay rfl (ay rfl (cj (y:=ab [.int .i8 base,.int .i64 aa,.int .i64 af,.int .i8 cc] [.int .i8 0,.int .i64 0,.int .i64 0,.int .i8 0]) (av h2))))))]) (by kernel_rfl)).to (by (simp [wk,aw,h2];done))
  exact (gC (d:=(xD 0 0 dst src base aa af cc)) (E1++ [tC (nt (ay rfl (ay rfl (cj (y:=ab [.int .i8 src,.int .i8 base,.int .i64 aa,.int .i64 af,.int .i8 cc] [.int .i8 0,.int .i8 0,.int .i64 0,.int .i64 0,.int .i8 0]) (av h1)))))]) (by kernel_rfl)).to (by (simp [wk,aw,h1];done))
 exact (gC (d:=(xD 0 w dst src base aa af cc)) (E1++ [tC (nt (ay rfl (cj (y:=ab [.int .i8 dst,.int .i8 src,.int .i8 base,.int .i64 aa,.int .i64 af,.int .i8 cc] [.int .i8 0,.int .i8 0,.int .i8 0,.int .i64 0,.int .i64 0,.int .i8 0]) (av h0))))]) (by kernel_rfl)).to (by (simp [wk,aw,h0];done))
theorem lQ {op:Int} (h:op<0∨32≤op):ax op=0∧bc op=0∧cq op=0:=by
 refine ⟨?_,?_,?_⟩
 ·unfold ax;repeat (rw [if_neg (by omega)])
 ·unfold bc;repeat (rw [if_neg (by omega)])
 ·unfold cq;repeat (rw [if_neg (by omega)])
theorem bZ (op:Int) (ho:op≤127):aE Tryz.prog 73 [.int .i8 op] (.aA [.agg [.int .i8 (ax op),.int .u8 (bc op),.int .i8 (cq op)],.bool (decide (0≤op∧op≤31))]):=by
 by_cases h1:op<0
 ·obtain ⟨e1,e2,e3⟩:=lQ (.inl h1)
  rw [e1,e2,e3,decide_eq_false (by omega)]
  exact Ah op h1
 ·by_cases h2:32≤op
  ·obtain ⟨e1,e2,e3⟩:=lQ (.inr h2)
   rw [e1,e2,e3,decide_eq_false (by omega)]
   exact wz op h2 ho
  ·rcases (by omega:op=0∨op=1∨op=2∨op=3∨op=4∨op=5∨op=6∨op=7∨op=8∨op=9∨op=10∨op=11∨op=12∨op=13∨op=14∨op=15∨op=16∨op=17∨op=18∨op=19∨op=20∨op=21∨op=22∨op=23∨op=24∨op=25∨op=26∨op=27∨op=28∨op=29∨op=30∨op=31) with rfl|rfl|rfl|rfl|rfl|rfl|rfl|rfl|rfl|rfl|rfl|rfl|rfl|rfl|rfl|rfl|rfl|rfl|rfl|rfl|rfl|rfl|rfl|rfl|rfl|rfl|rfl|rfl|rfl|rfl|rfl|rfl
   ·exact Ee
   ·exact Ed
   ·exact Ec
   ·exact Eb
   ·exact Ea
   ·exact D9
   ·exact D8
   ·exact D7
   ·exact D6
   ·exact D5
   ·exact CJ
   ·exact CI
   ·exact CH
   ·exact CG
   ·exact CF
   ·exact CE
   ·exact CD
   ·exact CC
   ·exact CB
   ·exact CA
   ·exact Cz
   ·exact Cy
   ·exact Cx
   ·exact Cw
   ·exact Cv
   ·exact Cu
   ·exact Ct
   ·exact Cs
   ·exact Cr
   ·exact Cq
   ·exact Cp
   ·exact Co
theorem Bv (op w dst src base aa af cc sh:Int) (h:(sh==1)=true):aE Tryz.prog 98 [xD op w dst src base aa af cc,.int .i8 sh] (xD 0 0 0 0 base aa af cc):=by
 obtain rfl:=eq_of_beq h
 exact xU op w dst src base aa af cc
theorem Bu (op w dst src base aa af cc sh:Int) (h:(sh==2)=true):aE Tryz.prog 98 [xD op w dst src base aa af cc,.int .i8 sh] (xD 0 0 0 0 base aa af cc):=by
 obtain rfl:=eq_of_beq h
 exact xS op w dst src base aa af cc
theorem Bt (op w dst src base aa af cc sh:Int) (h:(sh==3)=true):aE Tryz.prog 98 [xD op w dst src base aa af cc,.int .i8 sh] (xD 0 0 0 src base aa 0 cc):=by
 obtain rfl:=eq_of_beq h
 exact xR op w dst src base aa af cc
theorem Bs (op w dst src base aa af cc sh:Int) (h:(sh==4)=true):aE Tryz.prog 98 [xD op w dst src base aa af cc,.int .i8 sh] (xD 0 0 0 src base aa 0 cc):=by
 obtain rfl:=eq_of_beq h
 exact xQ op w dst src base aa af cc
theorem Br (op w dst src base aa af cc sh:Int) (h:(sh==5)=true):aE Tryz.prog 98 [xD op w dst src base aa af cc,.int .i8 sh] (xD 0 0 0 src base aa af cc):=by
 obtain rfl:=eq_of_beq h
 exact xP op w dst src base aa af cc
theorem Bq (op w dst src base aa af cc sh:Int) (h:(sh==6)=true):aE Tryz.prog 98 [xD op w dst src base aa af cc,.int .i8 sh] (xD 0 0 0 0 base aa af 0):=by
 obtain rfl:=eq_of_beq h
 exact xO op w dst src base aa af cc
theorem Bp (op w dst src base aa af cc sh:Int) (h:(sh==7)=true):aE Tryz.prog 98 [xD op w dst src base aa af cc,.int .i8 sh] (xD 0 0 0 src 0 0 af cc):=by
 obtain rfl:=eq_of_beq h
 exact xN op w dst src base aa af cc
theorem Bo (op w dst src base aa af cc sh:Int) (h:(sh==8)=true):aE Tryz.prog 98 [xD op w dst src base aa af cc,.int .i8 sh] (xD 0 0 dst 0 0 0 af cc):=by
 obtain rfl:=eq_of_beq h
 exact xM op w dst src base aa af cc
theorem Bn (op w dst src base aa af cc sh:Int) (h:(sh==9)=true):aE Tryz.prog 98 [xD op w dst src base aa af cc,.int .i8 sh] (xD 0 0 dst src base aa 0 cc):=by
 obtain rfl:=eq_of_beq h
 exact xL op w dst src base aa af cc
theorem xK (op w dst src base aa af cc sh:Int) (h:(sh==10)=true):aE Tryz.prog 98 [xD op w dst src base aa af cc,.int .i8 sh] (xD 0 0 dst src base aa 0 0):=by
 obtain rfl:=eq_of_beq h
 exact vN op w dst src base aa af cc
theorem xJ (op w dst src base aa af cc sh:Int) (h:(sh==11)=true):aE Tryz.prog 98 [xD op w dst src base aa af cc,.int .i8 sh] (xD 0 w dst src base aa af cc):=by
 obtain rfl:=eq_of_beq h
 exact vM op w dst src base aa af cc
theorem sM:type_of%(And.intro @cg.eq_1 (And.intro @bl.eq_1 (And.intro @hN.eq_1 (And.intro @a8.eq_1 (And.intro @bh.eq_1 (And.intro @nJ.eq_1 @ff.eq_1)))))):=(And.intro @cg.eq_1 (And.intro @bl.eq_1 (And.intro @hN.eq_1 (And.intro @a8.eq_1 (And.intro @bh.eq_1 (And.intro @nJ.eq_1 @ff.eq_1))))))
theorem AE (op w dst src base aa af cc:Int) (ho:op≤127) (h:(ax op==0)=true) (hin:decide (0≤op∧op≤31)=false):aE Tryz.prog 72 ([xD op w dst src base aa af cc]) (.bool (cg op w dst src base aa af cc)):=by
 have c0:= @bZ op ho
 rw [show (ax op)=0 from (eq_of_beq h)] at c0
 generalize g2:bc op=r1 at c0
 generalize g4:cq op=r3 at c0
 exact (cW (d:= .bool false) ([.ret _ _ _ c0]++List.replicate 6 (tC (eF (nt hin)))++ [tC (nt hin),tF,tF,tF,tF,tT,tF,tF,tF,tF,tT,tF,tF,tF,tF,tT,tF,tF,tF,tF,tT,tF,tF,tF,tF,tT,tT]) (by kernel_rfl)).to (by (try simp only [cB,wk,aw,aM,ab,ak,sM] at*);(simp [wk,aw,aM,ab,ak,sM, *];done))
theorem AD (op w dst src base aa af cc:Int) (ho:op≤127) (h:(ax op==1)=true) (hin:decide (0≤op∧op≤31)=true):aE Tryz.prog 72 ([xD op w dst src base aa af cc]) (.bool (cg op w dst src base aa af cc)):=by
 have c0:= @bZ op ho
 rw [show (ax op)=1 from (eq_of_beq h)] at c0
 generalize g2:bc op=r1 at c0
 generalize g4:cq op=r3 at c0
 have c5:= @Bv op w dst src base aa af cc 1 (rfl:true=true)
 let E1:EL:=([.ret _ _ _ c0]++List.replicate 4 (tC (eF (nt hin)))++ [.ret _ _ _ c5,tC (eF (nt hin)),tC (eF (nt hin)),.flat _ _ eh,tC (nt hin)])
 rcases dT (ab [.int .i8 0,.int .i8 0,.int .i8 0,.int .i8 0,.int .i8 base,.int .i64 aa,.int .i64 af,.int .i8 cc] [.int .i8 0,.int .i8 0,.int .i8 0,.int .i8 0,.int .i8 0,.int .i64 0,.int .i64 0,.int .i8 0]) with h6|h6
 ·have c7:= @cI dst
  generalize g9:bl dst=r8 at c7
  let E2:EL:=E1++List.replicate 3 (tC (eF (nt h6)))++ [.ret _ _ _ c7,tC (eF (nt h6)),tC (nt h6)]
  cases r8
  ·exact (cW (d:= .bool false) (E2++ [tF,tF,tF,tF,tT,tF,tF,tF,tF,tT,tF,tF,tF,tF,tT,tF,tF,tF,tF,tT,tT]) (by kernel_rfl)).to (by clear E1 E2;(try simp only [cB,wk,aw,aM,ab,ak,sM] at*);(simp [wk,aw,aM,ab,ak,sM, *];done))
  have c10:= @cI src
  generalize g12:bl src=r11 at c10
  let E3:EL:=E2++ [tT,tT,tT,.ret _ _ _ c10,tT,tF]
  cases r11
  ·exact (cW (d:= .bool false) (E3++ [tF,tF,tF,tF,tT,tF,tF,tF,tF,tT,tF,tF,tF,tF,tT,tT]) (by kernel_rfl)).to (by clear E1 E2 E3;(try simp only [cB,wk,aw,aM,ab,ak,sM] at*);(simp [wk,aw,aM,ab,ak,sM, *];done))
  have c13:= @cI base
  generalize g15:bl base=r14 at c13
  let E4:EL:=E3++ [tT,tT,tT,.ret _ _ _ c13,tT,tF]
  cases r14
  ·exact (cW (d:= .bool false) (E4++ [tF,tF,tF,tF,tT,tF,tF,tF,tF,tT,tT]) (by kernel_rfl)).to (by clear E1 E2 E3 E4;(try simp only [cB,wk,aw,aM,ab,ak,sM] at*);(simp [wk,aw,aM,ab,ak,sM, *];done))
  have c16:= @bg aa (-2147483648) 2147483647
  let E5:EL:=E4++ [tT,tT,tT,.ret _ _ _ c16,tT,tF]
  rcases dT (decide (aa<(-2147483648))) with h17|h17
  ·exact (cW (d:= .bool false) (E5++List.replicate 4 (tC (eF (nt (cj (y:=decide (aa≤2147483647)) (bR (-2147483648) h17)))))++ [tC (nt (cj (y:=decide (aa≤2147483647)) (bR (-2147483648) h17))),tT]) (by kernel_rfl)).to (by clear E1 E2 E3 E4 E5;(try simp only [cB,wk,aw,aM,ab,ak,sM] at*);(simp [wk,aw,aM,ab,ak,sM, *];omega))
  rcases dT (decide (aa<2147483648)) with h18|h18
  ·have c19:= @bg af (-2147483648) 2147483647
   let E6:EL:=E5++List.replicate 3 (tC (eF (nt (ay (bR (-2147483648) h17) (dC 2147483647 h18)))))++ [.ret _ _ _ c19,tC (eF (nt (ay (bR (-2147483648) h17) (dC 2147483647 h18)))),tC (nt (ay (bR (-2147483648) h17) (dC 2147483647 h18)))]
   rcases dT (decide (af<(-2147483648))) with h20|h20
   ·exact (cW (d:= .bool false) (E6++ [tC (nt (cj (y:=decide (af≤2147483647)) (bR (-2147483648) h20)))]) (by kernel_rfl)).to (by clear E1 E2 E3 E4 E5 E6;(try simp only [cB,wk,aw,aM,ab,ak,sM] at*);(simp [wk,aw,aM,ab,ak,sM, *];omega))
   rcases dT (decide (af<2147483648)) with h21|h21
   ·let E7:EL:=E6++ [tC (nt (ay (bR (-2147483648) h20) (dC 2147483647 h21)))]
    by_cases h22:w=32
    ·subst h22
     exact (cW (d:= .bool true) (E7++ [tF,tF,tF,tT,tF,tF,tF,tF,tF,tT,tT,tT]) (by kernel_rfl)).to (by clear E1 E2 E3 E4 E5 E6 E7;(try simp only [cB,wk,aw,aM,ab,ak,sM] at*);(rw [Bool.eq_iff_iff];simp [wk,aw,aM,ab,ak,sM, *];grind))
    let E8:EL:=E7++List.replicate 3 (tC (eF (av h22)))++ [tC (av h22)]++List.replicate 4 (tC (eF (av h22)))
    by_cases h23:w=8
    ·subst h23
     have c24:= @bg af (-128) 127
     exact (cW (d:= .bool false) (E8++ [tT,tT,tT,.ret _ _ _ c24,tT,tT,tF,tT,tT]) (by kernel_rfl)).to (by clear E1 E2 E3 E4 E5 E6 E7 E8;(try simp only [cB,wk,aw,aM,ab,ak,sM] at*);(simp [wk,aw,aM,ab,ak,sM, *];done))
    exact (cW (d:= .bool (w==64)) (E8++List.replicate 3 (tC (eT (av h23)))++ [tC (eF (av h22)),tC (av h23),tC (av h22),tT,tT]) (by kernel_rfl)).to (by clear E1 E2 E3 E4 E5 E6 E7 E8;(try simp only [cB,wk,aw,aM,ab,ak,sM] at*);(rw [Bool.eq_iff_iff];simp [wk,aw,aM,ab,ak,sM, *];grind))
   exact (cW (d:= .bool false) (E6++ [tC (nt (ay (bR (-2147483648) h20) (dC 2147483647 h21)))]) (by kernel_rfl)).to (by clear E1 E2 E3 E4 E5 E6;(try simp only [cB,wk,aw,aM,ab,ak,sM] at*);(simp [wk,aw,aM,ab,ak,sM, *];omega))
  exact (cW (d:= .bool false) (E5++List.replicate 4 (tC (eF (nt (ay (bR (-2147483648) h17) (dC 2147483647 h18)))))++ [tC (nt (ay (bR (-2147483648) h17) (dC 2147483647 h18))),tT]) (by kernel_rfl)).to (by clear E1 E2 E3 E4 E5;(try simp only [cB,wk,aw,aM,ab,ak,sM] at*);(simp [wk,aw,aM,ab,ak,sM, *];omega))
 exact (cW (d:= .bool false) (E1++List.replicate 4 (tC (eF (nt h6)))++ [tC (nt h6),tF,tF,tF,tF,tT,tF,tF,tF,tF,tT,tF,tF,tF,tF,tT,tF,tF,tF,tF,tT,tT]) (by kernel_rfl)).to (by clear E1;(try simp only [cB,wk,aw,aM,ab,ak,sM] at*);(rw [Bool.eq_iff_iff];simp [wk,aw,aM,ab,ak,sM, *];grind))
theorem AB (op w dst src base aa af cc:Int) (ho:op≤127) (h:(ax op==2)=true) (hin:decide (0≤op∧op≤31)=true):aE Tryz.prog 72 ([xD op w dst src base aa af cc]) (.bool (cg op w dst src base aa af cc)):=by
 have c0:= @bZ op ho
 rw [show (ax op)=2 from (eq_of_beq h)] at c0
 generalize g2:bc op=r1 at c0
 generalize g4:cq op=r3 at c0
 have c5:= @Bu op w dst src base aa af cc 2 (rfl:true=true)
 let E1:EL:=([.ret _ _ _ c0]++List.replicate 4 (tC (eF (nt hin)))++ [.ret _ _ _ c5,tC (eF (nt hin)),tC (eF (nt hin)),.flat _ _ eh,tC (nt hin)])
 rcases dT (ab [.int .i8 0,.int .i8 0,.int .i8 0,.int .i8 0,.int .i8 base,.int .i64 aa,.int .i64 af,.int .i8 cc] [.int .i8 0,.int .i8 0,.int .i8 0,.int .i8 0,.int .i8 0,.int .i64 0,.int .i64 0,.int .i8 0]) with h6|h6
 ·have c7:= @cI dst
  generalize g9:bl dst=r8 at c7
  let E2:EL:=E1++List.replicate 3 (tC (eF (nt h6)))++ [.ret _ _ _ c7,tC (eF (nt h6)),tC (nt h6)]
  cases r8
  ·exact (cW (d:= .bool false) (E2++ [tF,tF,tF,tF,tT,tF,tF,tF,tF,tT,tF,tF,tF,tF,tT,tF,tF,tF,tF,tT,tT]) (by kernel_rfl)).to (by clear E1 E2;(try simp only [cB,wk,aw,aM,ab,ak,sM] at*);(simp [wk,aw,aM,ab,ak,sM, *];done))
  have c10:= @cI src
  generalize g12:bl src=r11 at c10
  let E3:EL:=E2++ [tT,tT,tT,.ret _ _ _ c10,tT,tF]
  cases r11
  ·exact (cW (d:= .bool false) (E3++ [tF,tF,tF,tF,tT,tF,tF,tF,tF,tT,tF,tF,tF,tF,tT,tT]) (by kernel_rfl)).to (by clear E1 E2 E3;(try simp only [cB,wk,aw,aM,ab,ak,sM] at*);(simp [wk,aw,aM,ab,ak,sM, *];done))
  have c13:= @cI base
  generalize g15:bl base=r14 at c13
  let E4:EL:=E3++ [tT,tT,tT,.ret _ _ _ c13,tT,tF]
  cases r14
  ·exact (cW (d:= .bool false) (E4++ [tF,tF,tF,tF,tT,tF,tF,tF,tF,tT,tT]) (by kernel_rfl)).to (by clear E1 E2 E3 E4;(try simp only [cB,wk,aw,aM,ab,ak,sM] at*);(simp [wk,aw,aM,ab,ak,sM, *];done))
  have c16:= @bg aa (-2147483648) 2147483647
  let E5:EL:=E4++ [tT,tT,tT,.ret _ _ _ c16,tT,tF]
  rcases dT (decide (aa<(-2147483648))) with h17|h17
  ·exact (cW (d:= .bool false) (E5++List.replicate 4 (tC (eF (nt (cj (y:=decide (aa≤2147483647)) (bR (-2147483648) h17)))))++ [tC (nt (cj (y:=decide (aa≤2147483647)) (bR (-2147483648) h17))),tT]) (by kernel_rfl)).to (by clear E1 E2 E3 E4 E5;(try simp only [cB,wk,aw,aM,ab,ak,sM] at*);(simp [wk,aw,aM,ab,ak,sM, *];omega))
  rcases dT (decide (aa<2147483648)) with h18|h18
  ·have c19:= @bg af (-2147483648) 2147483647
   let E6:EL:=E5++List.replicate 3 (tC (eF (nt (ay (bR (-2147483648) h17) (dC 2147483647 h18)))))++ [.ret _ _ _ c19,tC (eF (nt (ay (bR (-2147483648) h17) (dC 2147483647 h18)))),tC (nt (ay (bR (-2147483648) h17) (dC 2147483647 h18)))]
   rcases dT (decide (af<(-2147483648))) with h20|h20
   ·exact (cW (d:= .bool false) (E6++ [tC (nt (cj (y:=decide (af≤2147483647)) (bR (-2147483648) h20)))]) (by kernel_rfl)).to (by clear E1 E2 E3 E4 E5 E6;(try simp only [cB,wk,aw,aM,ab,ak,sM] at*);(simp [wk,aw,aM,ab,ak,sM, *];omega))
   rcases dT (decide (af<2147483648)) with h21|h21
   ·let E7:EL:=E6++ [tC (nt (ay (bR (-2147483648) h20) (dC 2147483647 h21)))]
    by_cases h22:w=32
    ·subst h22
     exact (cW (d:= .bool true) (E7++ [tF,tF,tF,tT,tF,tF,tF,tF,tF,tT,tF,tT,tT]) (by kernel_rfl)).to (by clear E1 E2 E3 E4 E5 E6 E7;(try simp only [cB,wk,aw,aM,ab,ak,sM] at*);(rw [Bool.eq_iff_iff];simp [wk,aw,aM,ab,ak,sM, *];grind))
    let E8:EL:=E7++List.replicate 3 (tC (eF (av h22)))++ [tC (av h22)]++List.replicate 4 (tC (eF (av h22)))
    by_cases h23:w=8
    ·subst h23
     have c24:= @bg af (-128) 127
     exact (cW (d:= .bool false) (E8++ [tT,tT,tT,.ret _ _ _ c24,tT,tT,tF,tF,tT,tT]) (by kernel_rfl)).to (by clear E1 E2 E3 E4 E5 E6 E7 E8;(try simp only [cB,wk,aw,aM,ab,ak,sM] at*);(simp [wk,aw,aM,ab,ak,sM, *];done))
    exact (cW (d:= .bool (w==64)) (E8++List.replicate 3 (tC (eT (av h23)))++ [tC (eF (av h22)),tC (av h23),tC (av h22),tF,tT,tT]) (by kernel_rfl)).to (by clear E1 E2 E3 E4 E5 E6 E7 E8;(try simp only [cB,wk,aw,aM,ab,ak,sM] at*);(rw [Bool.eq_iff_iff];simp [wk,aw,aM,ab,ak,sM, *];grind))
   exact (cW (d:= .bool false) (E6++ [tC (nt (ay (bR (-2147483648) h20) (dC 2147483647 h21)))]) (by kernel_rfl)).to (by clear E1 E2 E3 E4 E5 E6;(try simp only [cB,wk,aw,aM,ab,ak,sM] at*);(simp [wk,aw,aM,ab,ak,sM, *];omega))
  exact (cW (d:= .bool false) (E5++List.replicate 4 (tC (eF (nt (ay (bR (-2147483648) h17) (dC 2147483647 h18)))))++ [tC (nt (ay (bR (-2147483648) h17) (dC 2147483647 h18))),tT]) (by kernel_rfl)).to (by clear E1 E2 E3 E4 E5;(try simp only [cB,wk,aw,aM,ab,ak,sM] at*);(simp [wk,aw,aM,ab,ak,sM, *];omega))
 exact (cW (d:= .bool false) (E1++List.replicate 4 (tC (eF (nt h6)))++ [tC (nt h6),tF,tF,tF,tF,tT,tF,tF,tF,tF,tT,tF,tF,tF,tF,tT,tF,tF,tF,tF,tT,tT]) (by kernel_rfl)).to (by clear E1;(try simp only [cB,wk,aw,aM,ab,ak,sM] at*);(rw [Bool.eq_iff_iff];simp [wk,aw,aM,ab,ak,sM, *];grind))
end Go.Proofs.YtbfpahigdpigpaaGreat
