import Derived.Test.YtbfpahigdpigpaaGreatV07
import Derived.Test.YtbfpahigdpigpaaGreatV08
import Derived.Test.YtbfpahigdpigpaaGreatV10
import Derived.Test.YtbfpahigdpigpaaGreatV14
import Derived.Test.YtbfpahigdpigpaaGreatV15
import Derived.Test.YtbfpahigdpigpaaGreatV17
import Derived.Test.YtbfpahigdpigpaaGreatV18
open BitVec renaming ofInt→Zw
open List renaming replicate→Zx,length→ZA,getD_eq_getElem?_getD→ZF,cons_append→ZG,length_append→ZR,nil_append→ZT,length_cons→ZZ,length_nil→Z5,drop_zero→aaD,isPrefixOf_iff_prefix→aaN
open Go.Proofs.Tryz renaming prog→Zy,f21→aaq
open Int renaming lt_add_one_of_le→ZC,not_lt→ZH,toNat→ZJ
open Bool renaming and_eq_true→ZD,or_eq_true→ZV,not_eq_true'→Z8,not_eq_false'→aai
open Go renaming IntKind→aaY
/- Contracts and plain laws that a statement's proof leans on (texts merged:XQ6,XQ6A,XQ7,XQ7A,XQ1G,XQ1H,XQ2G,XQ2H,XQ8,MdRe,MdP4). -/
set_option linter.unusedVariables false
set_option linter.unusedSimpArgs false
set_option maxRecDepth 100000
set_option maxHeartbeats 8000000
namespace Go.Proofs.YtbfpahigdpigpaaGreat
open Go Go.Ev
theorem gW (op:Int) (o0:0≤op) (o1:op≤31):aQ Zy 35 ([ak op]) (ay (yG op)):=by
 by_cases h0:op=0
 ·subst h0
  exact (rh (d:= .int .u8 137) [tT]).to (by simp only [wk,D.int.injEq,ee];decide)
 let E1:EL:= [tC (aR h0)]
 by_cases h1:op=2
 ·subst h1
  exact (rh (d:= .int .u8 1) (E1++ [tT])).to (by clear E1;simp only [wk,D.int.injEq,ee];decide)
 let E2:EL:=E1++ [tC (aR h1)]
 by_cases h2:op=3
 ·subst h2
  exact (rh (d:= .int .u8 9) (E2++ [tT])).to (by clear E1 E2;simp only [wk,D.int.injEq,ee];decide)
 let E3:EL:=E2++ [tC (aR h2)]
 by_cases h3:op=4
 ·subst h3
  exact (rh (d:= .int .u8 33) (E3++ [tT])).to (by clear E1 E2 E3;simp only [wk,D.int.injEq,ee];decide)
 let E4:EL:=E3++ [tC (aR h3)]
 by_cases h4:op=5
 ·subst h4
  exact (rh (d:= .int .u8 41) (E4++ [tT])).to (by clear E1 E2 E3 E4;simp only [wk,D.int.injEq,ee];decide)
 let E5:EL:=E4++ [tC (aR h4)]
 by_cases h5:op=6
 ·subst h5
  exact (rh (d:= .int .u8 49) (E5++ [tT])).to (by clear E1 E2 E3 E4 E5;simp only [wk,D.int.injEq,ee];decide)
 let E6:EL:=E5++ [tC (aR h5)]
 by_cases h6:op=7
 ·subst h6
  exact (rh (d:= .int .u8 57) (E6++ [tT])).to (by clear E1 E2 E3 E4 E5 E6;simp only [wk,D.int.injEq,ee];decide)
 let E7:EL:=E6++ [tC (aR h6)]
 by_cases h7:op=8
 ·subst h7
  exact (rh (d:= .int .u8 133) (E7++ [tT])).to (by clear E1 E2 E3 E4 E5 E6 E7;simp only [wk,D.int.injEq,ee];decide)
 let E8:EL:=E7++ [tC (aR h7)]
 by_cases h8:op=9
 ·subst h8
  exact (rh (d:= .int .u8 0) (E8++ [tT,tT])).to (by clear E1 E2 E3 E4 E5 E6 E7 E8;simp only [wk,D.int.injEq,ee];decide)
 let E9:EL:=E8++ [tC (aR h8)]
 by_cases h9:op=15
 ·subst h9
  exact (rh (d:= .int .u8 0) (E9++ [tT])).to (by clear E1 E2 E3 E4 E5 E6 E7 E8 E9;simp only [wk,D.int.injEq,ee];decide)
 let E10:EL:=E9++ [tC (aR h9)]
 by_cases UE:op=10
 ·subst UE
  exact (rh (d:= .int .u8 1) (E10++ [tT])).to (by clear E1 E2 E3 E4 E5 E6 E7 E8 E9 E10;simp only [wk,D.int.injEq,ee];decide)
 let E11:EL:=E10++ [tC (aR UE)]
 by_cases Vn:op=11
 ·subst Vn
  exact (rh (d:= .int .u8 4) (E11++ [tT,tT])).to (by clear E1 E2 E3 E4 E5 E6 E7 E8 E9 E10 E11;simp only [wk,D.int.injEq,ee];decide)
 let E12:EL:=E11++ [tC (aR Vn)]
 by_cases Wk:op=17
 ·subst Wk
  exact (rh (d:= .int .u8 4) (E12++ [tT,tT])).to (by clear E1 E2 E3 E4 E5 E6 E7 E8 E9 E10 E11 E12;simp only [wk,D.int.injEq,ee];decide)
 let E13:EL:=E12++ [tC (aR Wk)]
 by_cases h13:op=20
 ·subst h13
  exact (rh (d:= .int .u8 4) (E13++ [tT])).to (by clear E1 E2 E3 E4 E5 E6 E7 E8 E9 E10 E11 E12 E13;simp only [wk,D.int.injEq,ee];decide)
 let E14:EL:=E13++ [tC (aR h13)]
 by_cases h14:op=12
 ·subst h14
  exact (rh (d:= .int .u8 5) (E14++ [tT,tT])).to (by clear E1 E2 E3 E4 E5 E6 E7 E8 E9 E10 E11 E12 E13 E14;simp only [wk,D.int.injEq,ee];decide)
 let E15:EL:=E14++ [tC (aR h14)]
 by_cases h15:op=18
 ·subst h15
  exact (rh (d:= .int .u8 5) (E15++ [tT,tT])).to (by clear E1 E2 E3 E4 E5 E6 E7 E8 E9 E10 E11 E12 E13 E14 E15;simp only [wk,D.int.injEq,ee];decide)
 let E16:EL:=E15++ [tC (aR h15)]
 by_cases h16:op=21
 ·subst h16
  exact (rh (d:= .int .u8 5) (E16++ [tT])).to (by clear E1 E2 E3 E4 E5 E6 E7 E8 E9 E10 E11 E12 E13 E14 E15 E16;simp only [wk,D.int.injEq,ee];decide)
 let E17:EL:=E16++ [tC (aR h16)]
 by_cases h17:op=13
 ·subst h17
  exact (rh (d:= .int .u8 6) (E17++ [tT,tT])).to (by clear E1 E2 E3 E4 E5 E6 E7 E8 E9 E10 E11 E12 E13 E14 E15 E16 E17;simp only [wk,D.int.injEq,ee];decide)
 let E18:EL:=E17++ [tC (aR h17)]
 by_cases h18:op=24
 ·subst h18
  exact (rh (d:= .int .u8 6) (E18++ [tT])).to (by clear E1 E2 E3 E4 E5 E6 E7 E8 E9 E10 E11 E12 E13 E14 E15 E16 E17 E18;simp only [wk,D.int.injEq,ee];decide)
 by_cases h19:op=14
 ·subst h19
  exact (rh (d:= .int .u8 7) (E18++ [tC (aR h18),tT,tT])).to (by clear E1 E2 E3 E4 E5 E6 E7 E8 E9 E10 E11 E12 E13 E14 E15 E16 E17 E18;simp only [wk,D.int.injEq,ee];decide)
 let E19:EL:=E18++ [tC (aR h18),tC (aR h19)]
 by_cases h20:op=19
 ·subst h20
  exact (rh (d:= .int .u8 7) (E19++ [tT,tT])).to (by clear E1 E2 E3 E4 E5 E6 E7 E8 E9 E10 E11 E12 E13 E14 E15 E16 E17 E18 E19;simp only [wk,D.int.injEq,ee];decide)
 by_cases h21:op=22
 ·subst h21
  exact (rh (d:= .int .u8 7) (E19++ [tC (aR h20),tT])).to (by clear E1 E2 E3 E4 E5 E6 E7 E8 E9 E10 E11 E12 E13 E14 E15 E16 E17 E18 E19;simp only [wk,D.int.injEq,ee];decide)
 by_cases h22:op=23
 ·subst h22
  exact (rh (d:= .int .u8 3) (E19++ [tC (aR h20),tC (aR h21),tT])).to (by clear E1 E2 E3 E4 E5 E6 E7 E8 E9 E10 E11 E12 E13 E14 E15 E16 E17 E18 E19;simp only [wk,D.int.injEq,ee];decide)
 exact (rh (d:= .int .u8 0) (E19++ [tC (aR h20),tC (aR h21),tC (aR h22)])).to (by clear E1 E2 E3 E4 E5 E6 E7 E8 E9 E10 E11 E12 E13 E14 E15 E16 E17 E18 E19;simp only [wk,D.int.injEq,ee];unfold yG bh bO;(repeat split)<;>omega)
theorem HO (n op:Int) (o0:0≤op) (o1:op≤31) (n0:0≤n) (n1:n≤7) (hc:bq op=2) (dn:op≠15) (q1:op≠1) (hn:yG op=n):aF Zy (dT Tryz.f36 0) ⟨[4],[],[]⟩ 0 ((aq 129)::(ak n)::(uu)::(uu)::(uu)::(ak op)::(un 71)) [] (Ex.ret) (un 4++(ak op)::(un 72)) ([]):=by
 have c0:= @aH op
 have c1:= @gW op o0 o1
 exact aF.aj mixed ([tC (eH 31 (cq (ZC o1))),aw c0,tT,tT,tT,tC (eT (cD 2 true (by ((try simp only [iu] at*);omega):bq op=2))),tC (eT (cD 2 true (by ((try simp only [iu] at*);omega):bq op=2))),tC (cD 2 true (by ((try simp only [iu] at*);omega):bq op=2)),tC (eT (nt (by ((try simp only [iu] at*);omega):(op==15)=false))),tC (eT (nt (by ((try simp only [iu] at*);omega):(op==15)=false))),tC (nt (by ((try simp only [iu] at*);omega):(op==15)=false))]++Zx 4 (tC (eF (nt (by ((try simp only [iu] at*);omega):(op==1)=false))))++ [tC (nt (by ((try simp only [iu] at*);omega):(op==1)=false))]++Zx 8 tF++(cr 8 225++ [aw c1,tT,tT,tT,tT,tC (by ((try simp only [iu] at*);omega):(yG op==aaY.wrap aaY.u8 n)=true)])) (by kernel_rfl)
def Eh (Tz:Int) (V1:Int):Prop:= ∀(n op:Int) (o0:0≤op) (o1:op≤31) (n0:0≤n) (n1:n≤7) (hc:bq op≠Tz),aF Zy (dT Tryz.f36 0) ⟨[0,1,5],[],[]⟩ 0 ((aq V1)::(ak n)::(uu)::(uu)::(uu)::(ak op)::(un 71)) [] .norm ((aq V1)::(ak n)::(uu)::(uu)::(uu)::(ak (aaY.wrap aaY.i8 (op+1)))::(un 71)) ([])
theorem Nm:Eh 2 129:=by
 intro n op o0 o1 n0 n1 hc
 have c0:= @aH op
 exact aF.aj mixed (([tC (eH 31 (cq (ZC o1))),aw c0,tT,tT,tT,tC (eT (by ((try simp only [iu] at*);omega):(bq op==2)=false)),tC (eT (by ((try simp only [iu] at*);omega):(bq op==2)=false)),tC (by ((try simp only [iu] at*);omega):(bq op==2)=false)]++cr 39 278713940280)++Zx 9 tF) (by kernel_rfl)
theorem Nl (n op:Int) (o0:0≤op) (o1:op≤31) (n0:0≤n) (n1:n≤7) (hc:bq op=2) (dn:op≠15) (q1:op≠1) (hn:yG op≠n):aF Zy (dT Tryz.f36 0) ⟨[0,1,5],[],[]⟩ 0 ((aq 129)::(ak n)::(uu)::(uu)::(uu)::(ak op)::(un 71)) [] .norm ((aq 129)::(ak n)::(uu)::(uu)::(uu)::(ak (aaY.wrap aaY.i8 (op+1)))::(un 71)) ([]):=by
 have c0:= @aH op
 have c1:= @gW op o0 o1
 exact aF.aj mixed ([tC (eH 31 (cq (ZC o1))),aw c0,tT,tT,tT,tC (eT (cD 2 true (by ((try simp only [iu] at*);omega):bq op=2))),tC (eT (cD 2 true (by ((try simp only [iu] at*);omega):bq op=2))),tC (cD 2 true (by ((try simp only [iu] at*);omega):bq op=2)),tC (eT (nt (by ((try simp only [iu] at*);omega):(op==15)=false))),tC (eT (nt (by ((try simp only [iu] at*);omega):(op==15)=false))),tC (nt (by ((try simp only [iu] at*);omega):(op==15)=false))]++Zx 4 (tC (eF (nt (by ((try simp only [iu] at*);omega):(op==1)=false))))++ [tC (nt (by ((try simp only [iu] at*);omega):(op==1)=false))]++Zx 8 tF++(cr 8 225++ [aw c1,tT,tT,tT,tT,tC (by ((try simp only [iu] at*);omega):(yG op==aaY.wrap aaY.u8 n)=false)])) (by kernel_rfl)
def yD (Tz:Int) (V1:Int) (Yl:Int):Prop:= ∀(n:Int) (n0:0≤n) (n1:n≤7),aF Zy (dT Tryz.f36 0) ⟨[0,1,5],[],[]⟩ 0 ((aq Tz)::(ak n)::(uu)::(uu)::(uu)::(ak V1)::(un 71)) [] .norm ((aq Tz)::(ak n)::(uu)::(uu)::(uu)::(ak Yl)::(un 71)) ([])
theorem Lf:yD 129 15 16:=by
 intro n n0 n1
 have c0:= @aH 15
 exact aF.aj mixed (([tT,aw c0]++cr 45 17837692177983)++Zx 9 tF) (by kernel_rfl)
theorem Nn:yD 129 1 2:=by
 intro n n0 n1
 have c0:= @aH 1
 exact aF.aj mixed ([tT,aw c0]++Zx 12 tT++(cr 33 4354905316)++Zx 9 tF) (by kernel_rfl)
theorem HM (n op:Int) (o0:0≤op) (o1:op≤31) (n0:0≤n) (n1:n≤7) (hc:bq op=3) (hn:yG op=n):aF Zy (dT Tryz.f36 0) ⟨[4],[],[]⟩ 0 ((aq 193)::(ak n)::(uu)::(uu)::(uu)::(ak op)::(un 71)) [] (Ex.ret) (un 4++(ak op)::(un 72)) ([]):=by
 have c0:= @aH op
 have c1:= @gW op o0 o1
 exact aF.aj mixed ([tC (eH 31 (cq (ZC o1))),aw c0]++Zx 9 tF++(cr 8 127)++Zx 8 (tC (eF (cD 3 true (by ((try simp only [iu] at*);omega):bq op=3))))++ [tC (cD 3 true (by ((try simp only [iu] at*);omega):bq op=3)),tF,tF,tF,tF,tT,tT,tT,aw c1,tT,tT,tT,tT,tC (by ((try simp only [iu] at*);omega):(yG op==aaY.wrap aaY.u8 n)=true)]) (by kernel_rfl)
theorem Nk:Eh 3 193:=by
 intro n op o0 o1 n0 n1 hc
 have c0:= @aH op
 exact aF.aj mixed ([tC (eH 31 (cq (ZC o1))),aw c0]++Zx 9 tF++(cr 8 127)++Zx 3 (tC (eF (by ((try simp only [iu] at*);omega):(bq op==3)=false)))++([tF,tF,tC (eF (by ((try simp only [iu] at*);omega):(bq op==3)=false)),tF,tC (eF (by ((try simp only [iu] at*);omega):(bq op==3)=false)),tF,tF,tC (eF (by ((try simp only [iu] at*);omega):(bq op==3)=false)),tF,tC (eF (by ((try simp only [iu] at*);omega):(bq op==3)=false)),tF,tF,tC (eF (by ((try simp only [iu] at*);omega):(bq op==3)=false)),tF,tC (by ((try simp only [iu] at*);omega):(bq op==3)=false)]++cr 10 519)++Zx 9 tF) (by kernel_rfl)
theorem Nj (n op:Int) (o0:0≤op) (o1:op≤31) (n0:0≤n) (n1:n≤7) (hc:bq op=3) (hn:yG op≠n):aF Zy (dT Tryz.f36 0) ⟨[0,1,5],[],[]⟩ 0 ((aq 193)::(ak n)::(uu)::(uu)::(uu)::(ak op)::(un 71)) [] .norm ((aq 193)::(ak n)::(uu)::(uu)::(uu)::(ak (aaY.wrap aaY.i8 (op+1)))::(un 71)) ([]):=by
 have c0:= @aH op
 have c1:= @gW op o0 o1
 exact aF.aj mixed ([tC (eH 31 (cq (ZC o1))),aw c0]++Zx 9 tF++(cr 8 127)++Zx 8 (tC (eF (cD 3 true (by ((try simp only [iu] at*);omega):bq op=3))))++ [tC (cD 3 true (by ((try simp only [iu] at*);omega):bq op=3)),tF,tF,tF,tF,tT,tT,tT,aw c1,tT,tT,tT,tT,tC (by ((try simp only [iu] at*);omega):(yG op==aaY.wrap aaY.u8 n)=false)]) (by kernel_rfl)
theorem HK (n op:Int) (o0:0≤op) (o1:op≤31) (n0:0≤n) (n1:n≤7) (hc:bq op=4) (Zv:op≠23) (Zu:op≠24) (hn:yG op=n):aF Zy (dT Tryz.f36 0) ⟨[4],[],[]⟩ 0 ((aq 211)::(ak n)::(uu)::(uu)::(uu)::(ak op)::(un 71)) [] (Ex.ret) (un 4++(ak op)::(un 72)) ([]):=by
 have c0:= @aH op
 have c1:= @gW op o0 o1
 exact aF.aj mixed ([tC (eH 31 (cq (ZC o1))),aw c0]++Zx 9 tF++(cr 8 39)++Zx 8 tT++ [tC (eT (cD 4 true (by ((try simp only [iu] at*);omega):bq op=4))),tC (eT (cD 4 true (by ((try simp only [iu] at*);omega):bq op=4))),tT,tC (cD 4 true (by ((try simp only [iu] at*);omega):bq op=4)),tT,tC (eT (nt (by ((try simp only [iu] at*);omega):(op==23)=false))),tC (eT (nt (by ((try simp only [iu] at*);omega):(op==23)=false))),tT,tC (nt (by ((try simp only [iu] at*);omega):(op==23)=false)),tF]++Zx 4 (tC (eF (nt (by ((try simp only [iu] at*);omega):(op==24)=false))))++ [tC (nt (by ((try simp only [iu] at*);omega):(op==24)=false)),tT,tT,aw c1,tT,tT,tT,tT,tC (by ((try simp only [iu] at*);omega):(yG op==aaY.wrap aaY.u8 n)=true)]) (by kernel_rfl)
theorem Ni:Eh 4 211:=by
 intro n op o0 o1 n0 n1 hc
 have c0:= @aH op
 exact aF.aj mixed ([tC (eH 31 (cq (ZC o1))),aw c0]++Zx 9 tF++(cr 8 39)++Zx 8 tT++([tC (eT (by ((try simp only [iu] at*);omega):(bq op==4)=false)),tC (eT (by ((try simp only [iu] at*);omega):(bq op==4)=false)),tT,tC (by ((try simp only [iu] at*);omega):(bq op==4)=false)]++cr 16 33225)++Zx 9 tF) (by kernel_rfl)
theorem Nh (n op:Int) (o0:0≤op) (o1:op≤31) (n0:0≤n) (n1:n≤7) (hc:bq op=4) (Zv:op≠23) (Zu:op≠24) (hn:yG op≠n):aF Zy (dT Tryz.f36 0) ⟨[0,1,5],[],[]⟩ 0 ((aq 211)::(ak n)::(uu)::(uu)::(uu)::(ak op)::(un 71)) [] .norm ((aq 211)::(ak n)::(uu)::(uu)::(uu)::(ak (aaY.wrap aaY.i8 (op+1)))::(un 71)) ([]):=by
 have c0:= @aH op
 have c1:= @gW op o0 o1
 exact aF.aj mixed ([tC (eH 31 (cq (ZC o1))),aw c0]++Zx 9 tF++(cr 8 39)++Zx 8 tT++ [tC (eT (cD 4 true (by ((try simp only [iu] at*);omega):bq op=4))),tC (eT (cD 4 true (by ((try simp only [iu] at*);omega):bq op=4))),tT,tC (cD 4 true (by ((try simp only [iu] at*);omega):bq op=4)),tT,tC (eT (nt (by ((try simp only [iu] at*);omega):(op==23)=false))),tC (eT (nt (by ((try simp only [iu] at*);omega):(op==23)=false))),tT,tC (nt (by ((try simp only [iu] at*);omega):(op==23)=false)),tF]++Zx 4 (tC (eF (nt (by ((try simp only [iu] at*);omega):(op==24)=false))))++ [tC (nt (by ((try simp only [iu] at*);omega):(op==24)=false)),tT,tT,aw c1,tT,tT,tT,tT,tC (by ((try simp only [iu] at*);omega):(yG op==aaY.wrap aaY.u8 n)=false)]) (by kernel_rfl)
theorem Ld:yD 211 23 24:=by
 intro n n0 n1
 have c0:= @aH 23
 exact aF.aj mixed ([tT,aw c0]++Zx 9 tF++(cr 8 39)++Zx 13 tT++(cr 15 16612)++Zx 9 tF) (by kernel_rfl)
theorem Lc:yD 211 24 25:=by
 intro n n0 n1
 have c0:= @aH 24
 exact aF.aj mixed ([tT,aw c0]++Zx 9 tF++(cr 8 39)++Zx 17 tT++(cr 11 1038)++Zx 9 tF) (by kernel_rfl)
def Eg (Tz:Int) (V1:Int):Prop:= ∀(n:Int) (n0:0≤n) (n1:n≤7) (hn:n=Tz),aF Zy (dT Tryz.f36 0) ⟨[4],[],[]⟩ 0 ((aq 247)::(ak n)::(uu)::(uu)::(uu)::(ak V1)::(un 71)) [] (Ex.ret) (un 4++(ak V1)::(un 72)) ([])
theorem La:Eg 3 23:=by
 intro n n0 n1 hn
 have c0:= @aH 23
 have c1:= @gW 23 (by decide) (by decide)
 exact aF.aj mixed ([tT,aw c0]++Zx 9 tF++(cr 46 61147392026407++ [aw c1,tT,tT,tT])++ [tT,tC (by ((try simp only [iu] at*);omega):(3==aaY.wrap aaY.u8 n)=true)]) (by kernel_rfl)
def Ef (Tz:Int) (V1:Int) (Yl:Int):Prop:= ∀(n:Int) (n0:0≤n) (n1:n≤7) (hn:n≠Tz),aF Zy (dT Tryz.f36 0) ⟨[0,1,5],[],[]⟩ 0 ((aq 247)::(ak n)::(uu)::(uu)::(uu)::(ak V1)::(un 71)) [] .norm ((aq 247)::(ak n)::(uu)::(uu)::(uu)::(ak Yl)::(un 71)) ([])
theorem HI:Ef 3 23 24:=by
 intro n n0 n1 hn
 have c0:= @aH 23
 have c1:= @gW 23 (by decide) (by decide)
 exact aF.aj mixed ([tT,aw c0]++Zx 9 tF++(cr 46 61147392026407++ [aw c1,tT,tT,tT])++ [tT,tC (by ((try simp only [iu] at*);omega):(3==aaY.wrap aaY.u8 n)=false)]) (by kernel_rfl)
theorem K9:Eg 6 24:=by
 intro n n0 n1 hn
 have c0:= @aH 24
 have c1:= @gW 24 (by decide) (by decide)
 exact aF.aj mixed ([tT,aw c0]++Zx 9 tF++(cr 26 9742119)++Zx 9 tT++(cr 11 1778++ [aw c1,tT,tT,tT,tT,tC (by ((try simp only [iu] at*);omega):(6==aaY.wrap aaY.u8 n)=true)])) (by kernel_rfl)
theorem HH:Ef 6 24 25:=by
 intro n n0 n1 hn
 have c0:= @aH 24
 have c1:= @gW 24 (by decide) (by decide)
 exact aF.aj mixed ([tT,aw c0]++Zx 9 tF++(cr 26 9742119)++Zx 9 tT++(cr 11 1778++ [aw c1,tT,tT,tT,tT,tC (by ((try simp only [iu] at*);omega):(6==aaY.wrap aaY.u8 n)=false)])) (by kernel_rfl)
theorem Lb:Eg 0 15:=by
 intro n n0 n1 hn
 have c0:= @aH 15
 have c1:= @gW 15 (by decide) (by decide)
 exact aF.aj mixed ([tT,aw c0]++Zx 9 tF++(cr 26 9742119)++Zx 9 tT++(cr 11 1758++ [aw c1,tT,tT,tT,tT,tC (by ((try simp only [iu] at*);omega):(0==aaY.wrap aaY.u8 n)=true)])) (by kernel_rfl)
theorem HJ:Ef 0 15 16:=by
 intro n n0 n1 hn
 have c0:= @aH 15
 have c1:= @gW 15 (by decide) (by decide)
 exact aF.aj mixed ([tT,aw c0]++Zx 9 tF++(cr 26 9742119)++Zx 9 tT++(cr 11 1758++ [aw c1,tT,tT,tT,tT,tC (by ((try simp only [iu] at*);omega):(0==aaY.wrap aaY.u8 n)=false)])) (by kernel_rfl)
theorem Ng (n op:Int) (o0:0≤op) (o1:op≤31) (n0:0≤n) (n1:n≤7) (dn:op≠15) (Zv:op≠23) (Zu:op≠24):aF Zy (dT Tryz.f36 0) ⟨[0,1,5],[],[]⟩ 0 ((aq 247)::(ak n)::(uu)::(uu)::(uu)::(ak op)::(un 71)) [] .norm ((aq 247)::(ak n)::(uu)::(uu)::(uu)::(ak (aaY.wrap aaY.i8 (op+1)))::(un 71)) ([]):=by
 have c0:= @aH op
 exact aF.aj mixed ([tC (eH 31 (cq (ZC o1))),aw c0]++Zx 9 tF++(cr 32 4237600551++ [tC (eF (by ((try simp only [iu] at*);omega):(op==23)=false)),tC (eF (by ((try simp only [iu] at*);omega):(op==23)=false)),tT,tC (by ((try simp only [iu] at*);omega):(op==23)=false),tT,tC (eF (by ((try simp only [iu] at*);omega):(op==24)=false)),tC (eF (by ((try simp only [iu] at*);omega):(op==24)=false)),tT,tC (by ((try simp only [iu] at*);omega):(op==24)=false),tT,tT,tF])++Zx 5 (tC (eT (by ((try simp only [iu] at*);omega):(op==15)=false)))++ [tC (by ((try simp only [iu] at*);omega):(op==15)=false),tF]) (by kernel_rfl)
def yC (Tz:Int):Prop:= ∀(n:Int) (n0:0≤n) (n1:n≤7),aF Zy (dT Tryz.f36 0) ⟨[],[],[]⟩ 0 ((aq Tz)::(ak n)::(uu)::(uu)::(uu)::(ak 32)::(un 71)) [] (.exit 0) (un 77) ([])
theorem HP:yC 129:=by
 intro n n0 n1
 exact aF.aj mixed [tF] (by kernel_rfl)
theorem HN:yC 193:=by
 intro n n0 n1
 exact aF.aj mixed [tF] (by kernel_rfl)
theorem HL:yC 211:=by
 intro n n0 n1
 exact aF.aj mixed [tF] (by kernel_rfl)
theorem HG:yC 247:=by
 intro n n0 n1
 exact aF.aj mixed [tF] (by kernel_rfl)
abbrev Nf (aa n op:Int):List D:=([aq aa,ak n,mH,mH,mH,ak op]++ke 71)
abbrev Rb (o:Int):List D:=([mH,mH,mH,mH,ak o]++ke 72)
abbrev RK:List D:=(ke 77)
theorem M8 {aa n:Int} (TL:aa=129∨aa=193∨aa=211∨aa=247) (n0:0≤n) (n1:n≤7) (op:Int) (o0:0≤op) (o1:op≤31) (h:md aa n op=false):
  aF Zy (dT Tryz.f36 0) ⟨[0,1,5],[],[]⟩ 0 (Nf aa n op) [] .norm (Nf aa n (op+1)) []:=by
 have hw:aaY.i8.wrap (op+1)=op+1:=by rw [dh];omega
 rw [← hw]
 unfold md K2 at h
 rcases TL with rfl|rfl|rfl|rfl
 ·simp only [if_true] at h
  by_cases Ut:op=15
  ·subst Ut;exact Lf n n0 n1
  by_cases c1:op=1
  ·subst c1;exact Nn n n0 n1
  by_cases hc:bq op=2
  ·have:yG op≠n:=by intro e;rw [cq ⟨hc,Ut,c1⟩,cq e] at h;cases h
   exact Nl n op o0 o1 n0 n1 hc Ut c1 this
  ·exact Nm n op o0 o1 n0 n1 hc
 ·simp only [show ¬(193:Int)=129 by decide,if_false,if_true] at h
  by_cases hc:bq op=3
  ·have:yG op≠n:=by intro e;rw [cq hc,cq e] at h;cases h
   exact Nj n op o0 o1 n0 n1 hc this
  ·exact Nk n op o0 o1 n0 n1 hc
 ·simp only [show ¬(211:Int)=129 by decide,show ¬(211:Int)=193 by decide,if_false,if_true] at h
  by_cases Ua:op=23
  ·subst Ua;exact Ld n n0 n1
  by_cases UG:op=24
  ·subst UG;exact Lc n n0 n1
  by_cases hc:bq op=4
  ·have:yG op≠n:=by intro e;rw [cq ⟨hc,Ua,UG⟩,cq e] at h;cases h
   exact Nh n op o0 o1 n0 n1 hc Ua UG this
  ·exact Ni n op o0 o1 n0 n1 hc
 ·simp only [show ¬(247:Int)=129 by decide,show ¬(247:Int)=193 by decide,show ¬(247:Int)=211 by decide,if_false] at h
  by_cases Ua:op=23
  ·subst Ua
   exact HI n n0 n1 (by rintro rfl;revert h;decide)
  by_cases UG:op=24
  ·subst UG
   exact HH n n0 n1 (by rintro rfl;revert h;decide)
  by_cases Ut:op=15
  ·subst Ut
   exact HJ n n0 n1 (by rintro rfl;revert h;decide)
  ·exact Ng n op o0 o1 n0 n1 Ut Ua UG
theorem Pr {aa n:Int} (TL:aa=129∨aa=193∨aa=211∨aa=247) (n0:0≤n) (n1:n≤7) (op:Int) (o0:0≤op) (o1:op≤31) (h:md aa n op=true):
  aF Zy (dT Tryz.f36 0) ⟨[4],[],[]⟩ 0 (Nf aa n op) [] .ret (Rb op) []:=by
 unfold md K2 at h
 rw [ZD,bX] at h
 obtain ⟨h,hn⟩:=h
 rcases TL with rfl|rfl|rfl|rfl
 ·simp only [if_true,bX] at h
  exact HO n op o0 o1 n0 n1 h.1 h.2.1 h.2.2 hn
 ·simp only [show ¬(193:Int)=129 by decide,if_false,if_true,bX] at h
  exact HM n op o0 o1 n0 n1 h hn
 ·simp only [show ¬(211:Int)=129 by decide,show ¬(211:Int)=193 by decide,if_false,if_true,bX] at h
  exact HK n op o0 o1 n0 n1 h.1 h.2.1 h.2.2 hn
 ·simp only [show ¬(247:Int)=129 by decide,show ¬(247:Int)=193 by decide,show ¬(247:Int)=211 by decide,if_false,bX] at h
  rcases h with rfl|rfl|rfl
  ·exact La n n0 n1 (by rw [← hn];rfl)
  ·exact K9 n n0 n1 (by rw [← hn];rfl)
  ·exact Lb n n0 n1 (by rw [← hn];rfl)
theorem vf {aa n:Int} (TL:aa=129∨aa=193∨aa=211∨aa=247) (n0:0≤n) (n1:n≤7):∀(m j:Nat),j+m=32→match (ic.drop j).find? (md aa n) with
  |none=>cX Zy (dT Tryz.f36 0) 0 (Nf aa n j) [] (.exit 0) RK []
  |some o=>cX Zy (dT Tryz.f36 0) 0 (Nf aa n j) [] .ret (Rb o) []
 |0,j,hj=>by
  obtain rfl:j=32:=by omega
  rw [show (ic.drop 32).find? (md aa n)=none from rfl]
  rcases TL with rfl|rfl|rfl|rfl
  ·exact cX.last (HP n n0 n1) (fun h=>by cases h)
  ·exact cX.last (HN n n0 n1) (fun h=>by cases h)
  ·exact cX.last (HL n n0 n1) (fun h=>by cases h)
  ·exact cX.last (HG n n0 n1) (fun h=>by cases h)
 |m+1,j,hj=>by
  have ih:=vf TL n0 n1 m (j+1) (by omega)
  rw [Ar (by omega),List.find?_cons]
  cases h:md aa n (j:Int) with
  |true=>exact cX.last (Pr TL n0 n1 j (by omega) (by omega) h) (fun h=>by cases h)
  |false=>
   have:=M8 TL n0 n1 j (by omega) (by omega) h
   rw [show ((j:Int)+1)=((j+1:Nat):Int) by omega] at this
   simp only
   split
   ·rename_i e;rw [e] at ih;exact cX.j4 this ih
   ·rename_i r e;rw [e] at ih;exact cX.j4 this ih
theorem N8 {n0:Nat} {c:Code} {t:List D} {s:List Ob} {ex:Ex} {t':List D} {s':List Ob} (h:cS Zy n0 c t s ex t' s'):cS Zy n0 c t s ex t' s':=h
theorem Na {aa n:Int} (TL:aa=129∨aa=193∨aa=211∨aa=247) (n0:0≤n) (n1:n≤7):match ic.find? (md aa n) with
  |none=>cS Zy 0 (.loop (dT Tryz.f36 0)) (Nf aa n 0) [] (.exit 0) RK []
  |some o=>cS Zy 0 (.loop (dT Tryz.f36 0)) (Nf aa n 0) [] .ret (Rb o) []:=by
 have h:=vf TL n0 n1 32 0 rfl
 rw [aaD] at h
 split
 ·rename_i e;rw [e] at h;exact cS.iy (by decide) h
 ·rename_i o e;rw [e] at h;exact cS.iy (by decide) h
theorem HD (aa n o:Int) (hx:cS Zy 0 (.loop (dT Tryz.f36 0)) (Nf aa n 0) [] (.exit 0) (RK) []):aQ Zy 36 ([aq aa,ak n]) (ak (-1)):=by
 have c0:= @N8 (nat_lit 0) _ (([aq aa,ak n,mH,mH,mH,ak 0]++ke 71)) ([]) _ _ _ hx
 exact (aQ.aj (d:= .int .i8 (-1:Int)) mixed Tryz.func36 (by kernel_rfl) [.head ⟨[0,1,5],[],[]⟩ _ _ _ _ _ _ _ c0]).to (by rfl)
theorem CW (aa n o:Int) (hx:cS Zy 0 (.loop (dT Tryz.f36 0)) (Nf aa n 0) [] (.ret) (Rb o) []):aQ Zy 36 ([aq aa,ak n]) (ak o):=by
 have c0:= @N8 (nat_lit 0) _ (([aq aa,ak n,mH,mH,mH,ak 0]++ke 71)) ([]) _ _ _ hx
 exact (aQ.aj (d:= .int .i8 o) mixed Tryz.func36 (by kernel_rfl) [.head ⟨[0,1,5],[],[]⟩ _ _ _ _ _ _ _ c0]).to (by rfl)
theorem K3 {aa n:Int} (TL:aa=129∨aa=193∨aa=211∨aa=247) (n0:0≤n) (n1:n≤7):aQ Zy 36 [aq aa,ak n] (ak (jR aa n)):=by
 have h:=Na TL n0 n1
 unfold jR
 split at h
 ·rename_i e;rw [e];exact HD aa n 0 h
 ·rename_i o e;rw [e];exact CW aa n o h
theorem Ir (X0 X2:List D) (b:List Int) (k:Nat) (bad w:Bool) (rr mm:Int) (l1:((bD b).length:Int)≤1000) (h:(k:Int)<((bD b).length:Int)) (v:Int) (hv:(bD b)[ZJ (aaY.i64.wrap (aaY.i64.wrap ((k:Int)+1) - 1))]? =some (ay v)):ao Zy 38 ([.ptr false 1 0]) ([aA X0,aA [bj 1 (bD b),aq ((k:Int)),ax bad,ax w,ak rr,ak mm],aA X2,aY]) (aq (aaY.i64.wrap v)) ([aA X0,aA [bj 1 (bD b),aq (aaY.i64.wrap ((k:Int)+1)),ax bad,ax w,ak rr,ak mm],aA X2,aY]):=(ao.aj (aV:= [0,1,2,3]) (d:= .int .i64 (aaY.wrap aaY.i64 v)) (s':= [aA X0,aA [bj 1 (bD b),aq (aaY.i64.wrap ((↑k:Int)+(1:Int))),ax bad,ax w,ak rr,ak mm],aA X2,aY]) mixed [tC (by ((try simp only [aG,dh,bw,aX,bZ,bX,cJ,cF,lO,gp,bne_eq_false_iff_eq,Z8,aai,ZD,ZV] at*);(try unfold dK at*);omega):(decide ((↑k:Int)≥(↑(ZA (bD b)):Int)))=false),.cM (decide ((0:Int)≤aaY.i64.wrap (aaY.i64.wrap ((↑k:Int)+(1:Int)) - (1:Int)))) true (by ((try simp only [aG,dh,bw,aX,bZ,bX,cJ,cF,lO,gp,bne_eq_false_iff_eq,Z8,aai,ZD,ZV] at*);(try unfold dK at*);omega)),.get _ _ _ hv]).cast (by rfl) (by rfl)
theorem DG (X0 X2:List D) (b:List Int) (k:Nat) (bad w:Bool) (rr mm:Int) (l1:((bD b).length:Int)≤1000) (h:((bD b).length:Int)≤(k:Int)):ao Zy 38 ([.ptr false 1 0]) ([aA X0,aA [bj 1 (bD b),aq ((k:Int)),ax bad,ax w,ak rr,ak mm],aA X2,aY]) (aq 0) ([aA X0,aA [bj 1 (bD b),aq ((k:Int)),ax true,ax w,ak rr,ak mm],aA X2,aY]):=(ao.aj (aV:= [0,1,2,3]) (d:= .int .i64 0) (s':= [aA X0,aA [bj 1 (bD b),aq (↑k:Int),ax true,ax w,ak rr,ak mm],aA X2,aY]) mixed [tC (by ((try simp only [aG,dh,bw,aX,bZ,bX,cJ,cF,lO,gp,bne_eq_false_iff_eq,Z8,aai,ZD,ZV] at*);(try unfold dK at*);omega):(decide ((↑k:Int)≥(↑(ZA (bD b)):Int)))=true)]).cast (by rfl) (by rfl)
abbrev Q1 (X0 X2:List D) (b:List Int) (k:Nat) (bad w:Bool) (rr mm:Int):List Ob:= [aA X0,aA [bj 1 (bD b),aq (k:Int),ax bad,ax w,ak rr,ak mm],aA X2,aY]
theorem m7 (X0 X2:List D) (b:List Int) (hb:dx b) (hl:b.length≤1000) (k:Nat) (bad w:Bool) (rr mm:Int):ao Zy 38 [.ptr false 1 0] (Q1 X0 X2 b k bad w rr mm) (aq (aM b k)) (Q1 X0 X2 b (aN b k) (cu b k bad) w rr mm):=by
 have l1:((bD b).length:Int)≤1000:=by rw [aG];omega
 by_cases h:k<b.length
 ·have hw:aaY.i64.wrap ((k:Int)+1)=((k+1:Nat):Int):=by rw [aX];omega
  have UF:aaY.i64.wrap (aaY.i64.wrap ((k:Int)+1) - 1)=(k:Int):=by rw [hw,aX];omega
  have hv:(bD b)[ZJ (aaY.i64.wrap (aaY.i64.wrap ((k:Int)+1) - 1))]? =some (ay (aM b k)):=by
   rw [UF,Int.toNat_natCast]
   unfold aM bD
   simp [h,ZF]
  have:=Ir X0 X2 b k bad w rr mm l1 (by rw [aG];omega) (aM b k) hv
  have hr:=dV hb k
  have e:aaY.i64.wrap (aM b k)=aM b k:=by rw [aX];omega
  have e1:aN b k=k+1:=by unfold aN;rw [if_pos h]
  have e2:cu b k bad=bad:=by unfold cu;rw [bM (by omega),Bool.or_false]
  rw [hw,e] at this
  rw [e1,e2]
  exact this
 ·have:=DG X0 X2 b k bad w rr mm l1 (by rw [aG];omega)
  have e0:aM b k=0:=by unfold aM;rw [ZF,List.getElem?_eq_none (by omega)];rfl
  have e1:aN b k=k:=by unfold aN;rw [if_neg h]
  have e2:cu b k bad=true:=by unfold cu;rw [cq (by omega),Bool.or_true]
  rw [e0,e1,e2]
  exact this
theorem Lx (X0 X2:List D) (b:List Int) (hb:dx b) (hl:b.length≤1000) (k:Nat) (bad w:Bool) (rr mm:Int) (u:Int) (hs:aQ Zy 59 [av (aaY.u64.wrap (aaY.u64.wrap (aaY.u64.wrap (aaY.u64.wrap (0+aaY.u64.wrap (aaY.u64.wrap (aM b (k))*1))+aaY.u64.wrap (aaY.u64.wrap (aM b (aN b (k)))*256))+aaY.u64.wrap (aaY.u64.wrap (aM b (aN b (aN b (k))))*65536))+aaY.u64.wrap (aaY.u64.wrap (aM b (aN b (aN b (aN b (k)))))*16777216))),ak 32] (av u)):ao Zy 37 ([.ptr false 1 0,aq 4]) ([aA X0,aA [bj 1 (bD b),aq ((k:Int)),ax (bad),ax w,ak rr,ak mm],aA X2,aY]) (aq (aaY.i64.wrap u)) ([aA X0,aA [bj 1 (bD b),aq ((aN b (aN b (aN b (aN b (k)))):Nat)),ax (cu b (aN b (aN b (aN b (k)))) (cu b (aN b (aN b (k))) (cu b (aN b (k)) (cu b (k) (bad))))),ax w,ak rr,ak mm],aA X2,aY,aY]):=(ao.aj (aV:= [0,1,2,3]) (d:= .int .i64 (aaY.wrap aaY.i64 u)) (s':= [aA X0,aA [bj 1 (bD b),aq (↑(aN b (aN b (aN b (aN b k)))):Int),ax (cu b (aN b (aN b (aN b k))) (cu b (aN b (aN b k)) (cu b (aN b k) (cu b k bad)))),ax w,ak rr,ak mm],aA X2,aY,aY]) mixed [.go 64,tT,.aI _ _ _ _ _ (@m7 (X0) (X2) (b) hb hl (k) (bad) (w) (rr) (mm)),tT,tT,.aI _ _ _ _ _ (@m7 (X0) (X2) (b) hb hl (aN b k) (cu b k bad) (w) (rr) (mm)),tT,tT,.aI _ _ _ _ _ (@m7 (X0) (X2) (b) hb hl (aN b (aN b k)) (cu b (aN b k) (cu b k bad)) (w) (rr) (mm)),tT,tT,.aI _ _ _ _ _ (@m7 (X0) (X2) (b) hb hl (aN b (aN b (aN b k))) (cu b (aN b (aN b k)) (cu b (aN b k) (cu b k bad))) (w) (rr) (mm)),tT,tF,aw hs]).cast (by rfl) (by rfl)
theorem qG (X0 X2:List D) (b:List Int) (hb:dx b) (hl:b.length≤1000) (k:Nat) (bad w:Bool) (rr mm:Int):ao Zy 37 [.ptr false 1 0,aq 4] (Q1 X0 X2 b k bad w rr mm) (aq (eN b k)) (Q1 X0 X2 b (dF b k) (dI b k bad) w rr mm++ [aY]):=by
 have h0:=dV hb k
 have h1:=dV hb (aN b k)
 have h2:=dV hb (aN b (aN b k))
 have h3:=dV hb (aN b (aN b (aN b k)))
 have e:=Om h0 h1 h2 h3
 have:=Lx X0 X2 b hb hl k bad w rr mm (fg (aM b k+256*aM b (aN b k)+65536*aM b (aN b (aN b k))+16777216*aM b (aN b (aN b (aN b k)))) 32) (by rw [e];exact kQ _)
 rw [Jr (by omega)] at this
 exact this
theorem MD (b:List Int) (hb:dx b) (hl:b.length≤1000) (k:Nat) (bad w half:Bool) (rr mm W:Int) (n0:0≤aM b k) (n1:aM b k≤255) (hk:(k:Int)<((bD b).length:Int)) (hv:(bD b)[ZJ (k:Int)]? =some (ay (aM b k))) (h:aM b k<192):aF Zy (dB aaq 0) fQ 3 (tQ b 137 true) [aA zX,bR b (↑k:Int) bad w rr mm,aA (xC (-1) W 0 0 0 0 0 0)] .norm (tU b) ([aA zX,bR b (↑(dF b (dZ b k)):Int) (dI b (dZ b k) (j3 b k bad)) w rr mm,aA (xC 27 16 0 (di (aM b k) rr) (dc (aM b k) mm) (eN b (dZ b k)) 0 0)]):=aF.aj mixed ([tT]++Zx 6 (tC (eT (by ((try simp only [aG,cO] at*);(try unfold dK at*);omega):(decide ((↑(ZA (bD b)):Int)>(↑k:Int)))=true)))++ [tT,.get _ _ _ hv,tC (eT (by ((try simp only [aG,cO] at*);(try unfold dK at*);omega):(decide ((↑(ZA (bD b)):Int)>(↑k:Int)))=true)),tC (eT (by ((try simp only [aG,cO] at*);(try unfold dK at*);omega):(decide ((↑(ZA (bD b)):Int)>(↑k:Int)))=true)),tC (by ((try simp only [aG,cO] at*);(try unfold dK at*);omega):(decide ((↑(ZA (bD b)):Int)>(↑k:Int)))=true),tC (cq h),.aI _ _ _ _ _ (@xO (zX) ((xC 27 W 0 0 0 0 0 0)) b hb hl k bad w rr mm),tT]) (by kernel_rfl)
theorem ME (b:List Int) (hb:dx b) (hl:b.length≤1000) (k:Nat) (bad w half:Bool) (rr mm W:Int) (n0:0≤aM b k) (n1:aM b k≤255) (hk:(k:Int)<((bD b).length:Int)) (hv:(bD b)[ZJ (k:Int)]? =some (ay (aM b k))) (h:aM b k<192):aF Zy (dB aaq 0) fQ 3 (tQ b 137 false) [aA zX,bR b (↑k:Int) bad w rr mm,aA (xC (-1) W 0 0 0 0 0 0)] .norm (tU b) ([aA zX,bR b (↑(dF b (dZ b k)):Int) (dI b (dZ b k) (j3 b k bad)) w rr mm,aA (xC 27 W 0 (di (aM b k) rr) (dc (aM b k) mm) (eN b (dZ b k)) 0 0)]):=aF.aj mixed ([tT]++Zx 6 (tC (eT (by ((try simp only [aG,cO] at*);(try unfold dK at*);omega):(decide ((↑(ZA (bD b)):Int)>(↑k:Int)))=true)))++ [tT,.get _ _ _ hv,tC (eT (by ((try simp only [aG,cO] at*);(try unfold dK at*);omega):(decide ((↑(ZA (bD b)):Int)>(↑k:Int)))=true)),tC (eT (by ((try simp only [aG,cO] at*);(try unfold dK at*);omega):(decide ((↑(ZA (bD b)):Int)>(↑k:Int)))=true)),tC (by ((try simp only [aG,cO] at*);(try unfold dK at*);omega):(decide ((↑(ZA (bD b)):Int)>(↑k:Int)))=true),tC (cq h),.aI _ _ _ _ _ (@xO (zX) ((xC 27 W 0 0 0 0 0 0)) b hb hl k bad w rr mm),tF]) (by kernel_rfl)
theorem OQ (b:List Int) (hb:dx b) (hl:b.length≤1000) (k:Nat) (bad w half:Bool) (rr mm W:Int) (n0:0≤aM b k) (n1:aM b k≤255) (hk:(k:Int)<((bD b).length:Int)) (hv:(bD b)[ZJ (k:Int)]? =some (ay (aM b k))) (h:192≤aM b k):aF Zy (dB aaq 0) fQ 3 (tQ b 137 half) [aA zX,bR b (↑k:Int) bad w rr mm,aA (xC (-1) W 0 0 0 0 0 0)] .norm (tU b) ([aA zX,bR b (↑(aN b k):Int) (gq b k bad) w rr mm,aA (xC 0 W (dc (aM b k) mm) (di (aM b k) rr) 0 0 0 0)]):=aF.aj mixed ([tT]++Zx 6 (tC (eT (by ((try simp only [aG,cO] at*);(try unfold dK at*);omega):(decide ((↑(ZA (bD b)):Int)>(↑k:Int)))=true)))++ [tT,.get _ _ _ hv,tC (eT (by ((try simp only [aG,cO] at*);(try unfold dK at*);omega):(decide ((↑(ZA (bD b)):Int)>(↑k:Int)))=true)),tC (eT (by ((try simp only [aG,cO] at*);(try unfold dK at*);omega):(decide ((↑(ZA (bD b)):Int)>(↑k:Int)))=true)),tC (by ((try simp only [aG,cO] at*);(try unfold dK at*);omega):(decide ((↑(ZA (bD b)):Int)>(↑k:Int)))=true),tC (bM (ZH.2 h)),.aI _ _ _ _ _ (@gL (zX) ((xC 0 W 0 0 0 0 0 0)) b hb hl k bad w rr mm)]) (by kernel_rfl)
theorem OP (b:List Int) (hb:dx b) (hl:b.length≤1000) (k:Nat) (bad w half:Bool) (rr mm W:Int) (n0:0≤aM b k) (n1:aM b k≤255) (hk:((bD b).length:Int)≤(k:Int)):aF Zy (dB aaq 0) fQ 3 (tQ b 137 half) [aA zX,bR b (↑k:Int) bad w rr mm,aA (xC (-1) W 0 0 0 0 0 0)] .norm (tU b) ([aA zX,bR b (↑(aN b k):Int) (gq b k bad) w rr mm,aA (xC 0 W (dc (aM b k) mm) (di (aM b k) rr) 0 0 0 0)]):=aF.aj mixed ([tT]++Zx 8 (tC (eT (by ((try simp only [aG,cO] at*);(try unfold dK at*);omega):(decide ((↑(ZA (bD b)):Int)>(↑k:Int)))=false)))++ [tC (by ((try simp only [aG,cO] at*);(try unfold dK at*);omega):(decide ((↑(ZA (bD b)):Int)>(↑k:Int)))=false),tF,.aI _ _ _ _ _ (@gL (zX) ((xC 0 W 0 0 0 0 0 0)) b hb hl k bad w rr mm)]) (by kernel_rfl)
def oC (Tz:Int) (V1:Int):Prop:= ∀(b:List Int) (hb:dx b) (hl:b.length≤1000) (k:Nat) (bad w half:Bool) (rr mm W:Int) (n0:0≤aM b k) (n1:aM b k≤255),aF Zy (dB aaq 0) fQ 3 (tQ b Tz half) [aA zX,bR b (↑k:Int) bad w rr mm,aA (xC (-1) W 0 0 0 0 0 0)] .norm (tU b) ([aA zX,bR b (↑(aN b k):Int) (gq b k bad) w rr mm,aA (xC V1 W (dc (aM b k) mm) (di (aM b k) rr) 0 0 0 0)])
theorem Rp:oC 1 2:=by
 intro b hb hl k bad w half rr mm W n0 n1
 exact aF.aj mixed (([tF,tT,tT,.go 64,tT,aO,tF,tT,tT,tT,aO,tF,tF,tT,tF,tT,aO,tF,tF,tF,tT,tF,tT,aO,tF,tF,tF,tF,tT,tF,tT,aO]++cr 8 160++ [aO]++cr 9 320)++([aO]++cr 10 128++ [.aI _ _ _ _ _ (@gL (zX) ((xC 2 W 0 0 0 0 0 0)) b hb hl k bad w rr mm)])) (by kernel_rfl)
theorem Ro:oC 9 3:=by
 intro b hb hl k bad w half rr mm W n0 n1
 exact aF.aj mixed (([tF,tF,tT,tT,.go 64,tT,aO,tF,tT,tF,tT,aO,tF,tF,tT,tT,tT,aO,tF,tF,tF,tT,tF,tT,aO,tF,tF,tF,tF,tT,tF,tT,aO]++cr 8 160++ [aO]++cr 8 64)++([tT,aO]++cr 10 128++ [.aI _ _ _ _ _ (@gL (zX) ((xC 3 W 0 0 0 0 0 0)) b hb hl k bad w rr mm)])) (by kernel_rfl)
theorem Qa:oC 33 4:=by
 intro b hb hl k bad w half rr mm W n0 n1
 exact aF.aj mixed (([tF,tF,tF,tT,tT,.go 64,tT,aO,tF,tT,tF,tT,aO,tF,tF,tT,tF,tT,aO,tF,tF,tF,tT,tT,tT,aO,tF,tF,tF,tF,tT,tF,tT,aO]++cr 8 160++ [aO,tF,tF,tF,tF,tF,tF,tT])++([tF,tT,aO]++cr 10 128++ [.aI _ _ _ _ _ (@gL (zX) ((xC 4 W 0 0 0 0 0 0)) b hb hl k bad w rr mm)])) (by kernel_rfl)
theorem P9:oC 41 5:=by
 intro b hb hl k bad w half rr mm W n0 n1
 exact aF.aj mixed (([tF,tF,tF,tF,tT,tT,.go 64,tT,aO,tF,tT,tF,tT,aO,tF,tF,tT,tF,tT,aO,tF,tF,tF,tT,tF,tT,aO,tF,tF,tF,tF,tT,tT,tT,aO]++cr 8 160++ [aO,tF,tF,tF,tF,tF,tF])++([tT,tF,tT,aO]++cr 10 128++ [.aI _ _ _ _ _ (@gL (zX) ((xC 5 W 0 0 0 0 0 0)) b hb hl k bad w rr mm)])) (by kernel_rfl)
theorem P8:oC 49 6:=by
 intro b hb hl k bad w half rr mm W n0 n1
 exact aF.aj mixed (([tF,tF,tF,tF,tF,tT,tT,.go 64,tT,aO,tF,tT,tF,tT,aO,tF,tF,tT,tF,tT,aO,tF,tF,tF,tT,tF,tT,aO,tF,tF,tF,tF,tT,tF,tT,aO]++cr 8 224++ [aO,tF,tF,tF,tF,tF])++([tF,tT,tF,tT,aO]++cr 10 128++ [.aI _ _ _ _ _ (@gL (zX) ((xC 6 W 0 0 0 0 0 0)) b hb hl k bad w rr mm)])) (by kernel_rfl)
theorem P7:oC 57 7:=by
 intro b hb hl k bad w half rr mm W n0 n1
 exact aF.aj mixed ((cr 8 192++ [.go 64,tT,aO,tF,tT,tF,tT,aO,tF,tF,tT,tF,tT,aO,tF,tF,tF,tT,tF,tT,aO,tF,tF,tF,tF,tT,tF,tT,aO]++cr 8 160++ [aO,tF,tF,tF,tF])++([tF,tF,tT,tT,tT,aO]++cr 10 128++ [.aI _ _ _ _ _ (@gL (zX) ((xC 7 W 0 0 0 0 0 0)) b hb hl k bad w rr mm)])) (by kernel_rfl)
theorem OI:oC 133 8:=by
 intro b hb hl k bad w half rr mm W n0 n1
 exact aF.aj mixed ((cr 8 128++ [.go 64,tT,aO,tF,tT,tF,tT,aO,tF,tF,tT,tF,tT,aO,tF,tF,tF,tT,tF,tT,aO,tF,tF,tF,tF,tT,tF,tT,aO]++cr 8 160++ [aO,tF,tF,tF,tF])++([tF,tF,tT,tF,tT,aO]++cr 10 384++ [.aI _ _ _ _ _ (@gL (zX) ((xC 8 W 0 0 0 0 0 0)) b hb hl k bad w rr mm)])) (by kernel_rfl)
theorem OL (b:List Int) (hb:dx b) (hl:b.length≤1000) (k:Nat) (bad w half:Bool) (rr mm W:Int) (n0:0≤aM b k) (n1:aM b k≤255) (o:Int) (hg:aQ Zy 36 [aq 129,ak (aaY.i8.wrap ((Zw 8 (di (aM b k) rr)&&&Zw 8 7).toNat:Int))] (ak o)):aF Zy (dB aaq 0) fQ 3 (tQ b 129 half) [aA zX,bR b (↑k:Int) bad w rr mm,aA (xC (-1) W 0 0 0 0 0 0)] .norm (tU b) ([aA zX,bR b (↑(dF b (aN b k)):Int) (dI b (aN b k) (gq b k bad)) w rr mm,aA (xC o W (dc (aM b k) mm) 0 0 0 (eN b (aN b k)) 0)]):=aF.aj mixed (Zx 8 tF++ [tT,tT,.aI _ _ _ _ _ (@gL (zX) ((xC (-1) W 0 0 0 0 0 0)) b hb hl k bad w rr mm),aw hg,tF,tF,tF,tT,tT,.aI _ _ _ _ _ (@qG (zX) ((xC o W (dc (aM b k) mm) 0 0 0 0 0)) b hb hl (aN b k) (gq b k bad) w rr mm),tF]) (by kernel_rfl)
theorem OK (b:List Int) (hb:dx b) (hl:b.length≤1000) (k:Nat) (bad w half:Bool) (rr mm W:Int) (n0:0≤aM b k) (n1:aM b k≤255) (o:Int) (hg:aQ Zy 36 [aq 193,ak (aaY.i8.wrap ((Zw 8 (di (aM b k) rr)&&&Zw 8 7).toNat:Int))] (ak o)) (ho:o≠15):aF Zy (dB aaq 0) fQ 3 (tQ b 193 half) [aA zX,bR b (↑k:Int) bad w rr mm,aA (xC (-1) W 0 0 0 0 0 0)] .norm (tU b) ([aA zX,bR b (↑(aN b (aN b k)):Int) (cu b (aN b k) (gq b k bad)) w rr mm,aA (xC o W (dc (aM b k) mm) 0 0 0 (aM b (aN b k)) 0)]):=aF.aj mixed (Zx 9 tF++ [tT,tT,.aI _ _ _ _ _ (@gL (zX) ((xC (-1) W 0 0 0 0 0 0)) b hb hl k bad w rr mm),aw hg,tT,tT,tT,tF,tC (by ((try simp only [aG,cO] at*);(try unfold dK at*);omega):(o==15)=false),tT,.aI _ _ _ _ _ (@m7 (zX) ((xC o W (dc (aM b k) mm) 0 0 0 0 0)) b hb hl (aN b k) (gq b k bad) w rr mm)]) (by kernel_rfl)
theorem OJ (b:List Int) (hb:dx b) (hl:b.length≤1000) (k:Nat) (bad w half:Bool) (rr mm W:Int) (n0:0≤aM b k) (n1:aM b k≤255) (o:Int) (hg:aQ Zy 36 [aq 211,ak (aaY.i8.wrap ((Zw 8 (di (aM b k) rr)&&&Zw 8 7).toNat:Int))] (ak o)) (ho:o≠15):aF Zy (dB aaq 0) fQ 3 (tQ b 211 half) [aA zX,bR b (↑k:Int) bad w rr mm,aA (xC (-1) W 0 0 0 0 0 0)] .norm (tU b) ([aA zX,bR b (↑(aN b k):Int) (gq b k bad) w rr mm,aA (xC o W (dc (aM b k) mm) 0 0 0 0 0)]):=aF.aj mixed (Zx 10 tF++ [tT,tT,.aI _ _ _ _ _ (@gL (zX) ((xC (-1) W 0 0 0 0 0 0)) b hb hl k bad w rr mm),aw hg,tT,tT,tT,tF,tC (by ((try simp only [aG,cO] at*);(try unfold dK at*);omega):(o==15)=false),tF]) (by kernel_rfl)
theorem Mz (b:List Int) (hb:dx b) (hl:b.length≤1000) (k:Nat) (bad w half:Bool) (rr mm W:Int) (n0:0≤aM b k) (n1:aM b k≤255) (o:Int) (hg:aQ Zy 36 [aq 247,ak (aaY.i8.wrap ((Zw 8 (di (aM b k) rr)&&&Zw 8 7).toNat:Int))] (ak o)) (ho:o≠15):aF Zy (dB aaq 0) fQ 3 (tQ b 247 half) [aA zX,bR b (↑k:Int) bad w rr mm,aA (xC (-1) W 0 0 0 0 0 0)] .norm (tU b) ([aA zX,bR b (↑(aN b k):Int) (gq b k bad) w rr mm,aA (xC o W (dc (aM b k) mm) 0 0 0 0 0)]):=aF.aj mixed (Zx 11 tF++ [tT,.aI _ _ _ _ _ (@gL (zX) ((xC (-1) W 0 0 0 0 0 0)) b hb hl k bad w rr mm),aw hg,tT,tT,tT,tF,tC (by ((try simp only [aG,cO] at*);(try unfold dK at*);omega):(o==15)=false),tF]) (by kernel_rfl)
theorem My (b:List Int) (hb:dx b) (hl:b.length≤1000) (k:Nat) (bad w half:Bool) (rr mm W:Int) (n0:0≤aM b k) (n1:aM b k≤255) (hg:aQ Zy 36 [aq 247,ak (aaY.i8.wrap ((Zw 8 (di (aM b k) rr)&&&Zw 8 7).toNat:Int))] (ak 15)):aF Zy (dB aaq 0) fQ 3 (tQ b 247 half) [aA zX,bR b (↑k:Int) bad w rr mm,aA (xC (-1) W 0 0 0 0 0 0)] .norm (tU b) ([aA zX,bR b (↑(dF b (aN b k)):Int) (dI b (aN b k) (gq b k bad)) w rr mm,aA (xC 15 W (dc (aM b k) mm) 0 0 0 (eN b (aN b k)) 0)]):=aF.aj mixed (Zx 11 tF++ [tT,.aI _ _ _ _ _ (@gL (zX) ((xC (-1) W 0 0 0 0 0 0)) b hb hl k bad w rr mm),aw hg,tT,tT,tT,tF,tT,.aI _ _ _ _ _ (@qG (zX) ((xC 15 W (dc (aM b k) mm) 0 0 0 0 0)) b hb hl (aN b k) (gq b k bad) w rr mm),tF]) (by kernel_rfl)
theorem Qd (b:List Int) (hb:dx b) (hl:b.length≤1000) (k:Nat) (bad w half:Bool) (rr mm W:Int) (n0:0≤aM b k) (n1:aM b k≤255):aF Zy (dB aaq 0) fQ 3 (tQ b 199 half) [aA zX,bR b (↑k:Int) bad w rr mm,aA (xC (-1) W 0 0 0 0 0 0)] .norm (tU b) ([aA zX,bR b (↑(dF b (aN b k)):Int) (dI b (aN b k) (gq b k bad)) w rr mm,aA (xC 1 W (dc (aM b k) mm) 0 0 0 (eN b (aN b k)) 0)]):=aF.aj mixed (Zx 12 tF++ [tT,.aI _ _ _ _ _ (@gL (zX) ((xC 1 W 0 0 0 0 0 0)) b hb hl k bad w rr mm),.aI _ _ _ _ _ (@eh (zX) ((xC 1 W (dc (aM b k) mm) 0 0 0 0 0)) b hb hl (aN b k) (gq b k bad) w rr mm)]) (by kernel_rfl)
theorem Qf (b:List Int) (hb:dx b) (hl:b.length≤1000) (k:Nat) (bad w half:Bool) (rr mm W:Int) (n0:0≤aM b k) (n1:aM b k≤255):aF Zy (dB aaq 0) fQ 3 (tQ b 139 half) [aA zX,bR b (↑k:Int) bad w rr mm,aA (xC (-1) W 0 0 0 0 0 0)] .norm (tU b) ([aA zX,bR b (↑(dF b (dZ b k)):Int) (dI b (dZ b k) (j3 b k bad)) w rr mm,aA (xC 26 W (di (aM b k) rr) 0 (dc (aM b k) mm) (eN b (dZ b k)) 0 0)]):=aF.aj mixed (Zx 13 tF++ [tT,.aI _ _ _ _ _ (@xO (zX) ((xC 26 W 0 0 0 0 0 0)) b hb hl k bad w rr mm)]) (by kernel_rfl)
theorem Qg (b:List Int) (hb:dx b) (hl:b.length≤1000) (k:Nat) (bad w half:Bool) (rr mm W:Int) (n0:0≤aM b k) (n1:aM b k≤255):aF Zy (dB aaq 0) fQ 3 (tQ b 136 half) [aA zX,bR b (↑k:Int) bad w rr mm,aA (xC (-1) W 0 0 0 0 0 0)] .norm (tU b) ([aA zX,bR b (↑(dF b (dZ b k)):Int) (dI b (dZ b k) (j3 b k bad)) w rr mm,aA (xC 27 8 0 (di (aM b k) rr) (dc (aM b k) mm) (eN b (dZ b k)) 0 0)]):=aF.aj mixed (Zx 14 tF++ [tT,.aI _ _ _ _ _ (@xO (zX) ((xC 27 8 0 0 0 0 0 0)) b hb hl k bad w rr mm)]) (by kernel_rfl)
theorem Qb (b:List Int) (hb:dx b) (hl:b.length≤1000) (k:Nat) (bad w half:Bool) (rr mm W:Int) (n0:0≤aM b k) (n1:aM b k≤255):aF Zy (dB aaq 0) fQ 3 (tQ b 235 half) [aA zX,bR b (↑k:Int) bad w rr mm,aA (xC (-1) W 0 0 0 0 0 0)] .norm (tU b) ([aA zX,bR b (↑(aN b k):Int) (cu b k bad) w rr mm,aA (xC 28 8 0 0 0 0 (uo b k) 0)]):=aF.aj mixed (Zx 15 tF++ [tT,.aI _ _ _ _ _ (@CE (zX) ((xC 28 8 0 0 0 0 0 0)) b hb hl k bad w rr mm)]) (by kernel_rfl)
theorem Qc (b:List Int) (hb:dx b) (hl:b.length≤1000) (k:Nat) (bad w half:Bool) (rr mm W:Int) (n0:0≤aM b k) (n1:aM b k≤255):aF Zy (dB aaq 0) fQ 3 (tQ b 233 half) [aA zX,bR b (↑k:Int) bad w rr mm,aA (xC (-1) W 0 0 0 0 0 0)] .norm (tU b) ([aA zX,bR b (↑(dF b k):Int) (dI b k bad) w rr mm,aA (xC 28 W 0 0 0 0 (eN b k) 0)]):=aF.aj mixed (Zx 16 tF++ [tT,.aI _ _ _ _ _ (@eh (zX) ((xC 28 W 0 0 0 0 0 0)) b hb hl k bad w rr mm)]) (by kernel_rfl)
theorem Qe (b:List Int) (hb:dx b) (hl:b.length≤1000) (k:Nat) (bad w half:Bool) (rr mm W:Int) (n0:0≤aM b k) (n1:aM b k≤255):aF Zy (dB aaq 0) fQ 3 (tQ b 195 half) [aA zX,bR b (↑k:Int) bad w rr mm,aA (xC (-1) W 0 0 0 0 0 0)] .norm (tU b) ([aA zX,bR b (↑k:Int) bad w rr mm,aA (xC 30 0 0 0 0 0 0 0)]):=aF.aj mixed (Zx 17 tF++ [tT]) (by kernel_rfl)
theorem MA (b:List Int) (hb:dx b) (hl:b.length≤1000) (k:Nat) (bad w half:Bool) (rr mm W:Int) (n0:0≤aM b k) (n1:aM b k≤255) (h:aM b k=175):aF Zy (dB aaq 0) fQ 3 (tQ b 15 half) [aA zX,bR b (↑k:Int) bad w rr mm,aA (xC (-1) W 0 0 0 0 0 0)] .norm (tU b) ([aA zX,bR b (↑(aN b (aN b k)):Int) (gq b (aN b k) (cu b k bad)) w rr mm,aA (xC 16 W (di (aM b (aN b k)) rr) (dc (aM b (aN b k)) mm) 0 0 0 0)]):=aF.aj mixed (Zx 18 tF++ [tT,.aI _ _ _ _ _ (@ID (zX) ((xC (-1) W 0 0 0 0 0 0)) b hb hl k bad w rr mm n0 n1 W h)]) (by kernel_rfl)
theorem J3 (b:List Int) (hb:dx b) (hl:b.length≤1000) (k:Nat) (bad w half:Bool) (rr mm W:Int) (n0:0≤aM b k) (n1:aM b k≤255) (h:aM b k=5):aF Zy (dB aaq 0) fQ 3 (tQ b 15 half) [aA zX,bR b (↑k:Int) bad w rr mm,aA (xC (-1) W 0 0 0 0 0 0)] .norm (tU b) ([aA zX,bR b (↑(aN b k):Int) (cu b k bad) w rr mm,aA (xC 31 0 0 0 0 0 0 0)]):=aF.aj mixed (Zx 18 tF++ [tT,.aI _ _ _ _ _ (@D0 (zX) ((xC (-1) W 0 0 0 0 0 0)) b hb hl k bad w rr mm n0 n1 W h)]) (by kernel_rfl)
theorem J4 (b:List Int) (hb:dx b) (hl:b.length≤1000) (k:Nat) (bad w half:Bool) (rr mm W:Int) (n0:0≤aM b k) (n1:aM b k≤255) (h:64≤aM b k) (h2:aM b k<80):aF Zy (dB aaq 0) fQ 3 (tQ b 15 half) [aA zX,bR b (↑k:Int) bad w rr mm,aA (xC (-1) W 0 0 0 0 0 0)] .norm (tU b) ([aA zX,bR b (↑(aN b (aN b k)):Int) (gq b (aN b k) (cu b k bad)) w rr mm,aA (xC 25 W (di (aM b (aN b k)) rr) (dc (aM b (aN b k)) mm) 0 0 0 (aaY.wrap aaY.i8 (aaY.i64.wrap (aM b k - 64))))]):=aF.aj mixed (Zx 18 tF++ [tT,.aI _ _ _ _ _ (@D1 (zX) ((xC (-1) W 0 0 0 0 0 0)) b hb hl k bad w rr mm n0 n1 W h h2)]) (by kernel_rfl)
theorem MC (b:List Int) (hb:dx b) (hl:b.length≤1000) (k:Nat) (bad w half:Bool) (rr mm W:Int) (n0:0≤aM b k) (n1:aM b k≤255) (h:128≤aM b k) (h2:aM b k<144):aF Zy (dB aaq 0) fQ 3 (tQ b 15 half) [aA zX,bR b (↑k:Int) bad w rr mm,aA (xC (-1) W 0 0 0 0 0 0)] .norm (tU b) ([aA zX,bR b (↑(dF b (aN b k)):Int) (dI b (aN b k) (cu b k bad)) w rr mm,aA (xC 29 W 0 0 0 0 (eN b (aN b k)) (aaY.wrap aaY.i8 (aaY.i64.wrap (aM b k - 128))))]):=aF.aj mixed (Zx 18 tF++ [tT,.aI _ _ _ _ _ (@IG (zX) ((xC (-1) W 0 0 0 0 0 0)) b hb hl k bad w rr mm n0 n1 W h h2)]) (by kernel_rfl)
theorem OO (b:List Int) (hb:dx b) (hl:b.length≤1000) (k:Nat) (bad w half:Bool) (rr mm W:Int) (n0:0≤aM b k) (n1:aM b k≤255) (h:aM b k=182):aF Zy (dB aaq 0) fQ 3 (tQ b 15 half) [aA zX,bR b (↑k:Int) bad w rr mm,aA (xC (-1) W 0 0 0 0 0 0)] .norm (tU b) ([aA zX,aA [bj 1 (bD b),aq (↑(dF b (dZ b (aN b k))):Int),ax (dI b (dZ b (aN b k)) (j3 b (aN b k) (cu b k bad))),ax w,ak rr,ak mm],aA (xC 26 8 (di (aM b (aN b k)) rr) 0 (dc (aM b (aN b k)) mm) (eN b (dZ b (aN b k))) 0 0)]):=aF.aj mixed (Zx 18 tF++ [tT,.aI _ _ _ _ _ (@LM (zX) ((xC (-1) W 0 0 0 0 0 0)) b hb hl k bad w rr mm n0 n1 W h)]) (by kernel_rfl)
theorem MB (b:List Int) (hb:dx b) (hl:b.length≤1000) (k:Nat) (bad w half:Bool) (rr mm W:Int) (n0:0≤aM b k) (n1:aM b k≤255) (h:aM b k=183):aF Zy (dB aaq 0) fQ 3 (tQ b 15 half) [aA zX,bR b (↑k:Int) bad w rr mm,aA (xC (-1) W 0 0 0 0 0 0)] .norm (tU b) ([aA zX,aA [bj 1 (bD b),aq (↑(dF b (dZ b (aN b k))):Int),ax (dI b (dZ b (aN b k)) (j3 b (aN b k) (cu b k bad))),ax w,ak rr,ak mm],aA (xC 26 16 (di (aM b (aN b k)) rr) 0 (dc (aM b (aN b k)) mm) (eN b (dZ b (aN b k))) 0 0)]):=aF.aj mixed (Zx 18 tF++ [tT,.aI _ _ _ _ _ (@IE (zX) ((xC (-1) W 0 0 0 0 0 0)) b hb hl k bad w rr mm n0 n1 W h)]) (by kernel_rfl)
theorem OM (b:List Int) (hb:dx b) (hl:b.length≤1000) (k:Nat) (bad w half:Bool) (rr mm W:Int) (n0:0≤aM b k) (n1:aM b k≤255) (q0:aM b k≠175) (q1:aM b k≠5) (q2:aM b k≠182) (q3:aM b k≠183) (h:aM b k<64∨80≤aM b k) (h2:aM b k<128∨144≤aM b k):aF Zy (dB aaq 0) fQ 3 (tQ b 15 half) [aA zX,bR b (↑k:Int) bad w rr mm,aA (xC (-1) W 0 0 0 0 0 0)] .norm (tU b) ([aA zX,bR b (↑(aN b k):Int) (cu b k bad) w rr mm,aA (xC (-1) W 0 0 0 0 0 0)]):=aF.aj mixed (Zx 18 tF++ [tT,.aI _ _ _ _ _ (@LL (zX) ((xC (-1) W 0 0 0 0 0 0)) b hb hl k bad w rr mm n0 n1 W q0 q1 q2 q3 h h2)]) (by kernel_rfl)
theorem Mx (b:List Int) (hb:dx b) (hl:b.length≤1000) (k:Nat) (bad w half:Bool) (rr mm W:Int) (n0:0≤aM b k) (n1:aM b k≤255) (n:Int) (m0:0≤n) (m1:n≤255) (h:112≤n) (h2:n<128):aF Zy (dB aaq 0) fQ 3 (tQ b n half) [aA zX,bR b (↑k:Int) bad w rr mm,aA (xC (-1) W 0 0 0 0 0 0)] .norm (tU b) ([aA zX,bR b (↑(aN b k):Int) (cu b k bad) w rr mm,aA (xC 29 8 0 0 0 0 (uo b k) (aaY.wrap aaY.i8 (aaY.i64.wrap (n - 112))))]):=aF.aj mixed [tC (pF 137 (cq h2)),tC (uB 1 (bM (ZH.2 h))),tC (uB 9 (bM (ZH.2 h))),tC (uB 33 (bM (ZH.2 h))),tC (uB 41 (bM (ZH.2 h))),tC (uB 49 (bM (ZH.2 h))),tC (uB 57 (bM (ZH.2 h))),tC (pF 133 (cq h2)),tC (pF 129 (cq h2)),tC (pF 193 (cq h2)),tC (pF 211 (cq h2)),tC (pF 247 (cq h2)),tC (pF 199 (cq h2)),tC (pF 139 (cq h2)),tC (pF 136 (cq h2)),tC (pF 235 (cq h2)),tC (pF 233 (cq h2)),tC (pF 195 (cq h2)),tC (uB 15 (bM (ZH.2 h))),.aI _ _ _ _ _ (@Gl (zX) ((xC (-1) W 0 0 0 0 0 0)) b hb hl k bad w rr mm W n m0 m1 h h2)] (by kernel_rfl)
theorem Mw (b:List Int) (hb:dx b) (hl:b.length≤1000) (k:Nat) (bad w half:Bool) (rr mm W:Int) (n0:0≤aM b k) (n1:aM b k≤255) (n:Int) (m0:0≤n) (m1:n≤255) (h:184≤n) (h2:n<192):aF Zy (dB aaq 0) fQ 3 (tQ b n half) [aA zX,bR b (↑k:Int) bad w rr mm,aA (xC (-1) W 0 0 0 0 0 0)] .norm (tU b) ([aA zX,bR b (↑(dF b k):Int) (dI b k bad) w rr mm,aA (xC 1 W (aaY.wrap aaY.i8 (aaY.wrap aaY.i8 (aaY.i64.wrap (n - 184))+aaY.wrap aaY.i8 (8*mm))) 0 0 0 (eN b k) 0)]):=aF.aj mixed [tC (uB 137 (bM (ZH.2 h))),tC (uB 1 (bM (ZH.2 h))),tC (uB 9 (bM (ZH.2 h))),tC (uB 33 (bM (ZH.2 h))),tC (uB 41 (bM (ZH.2 h))),tC (uB 49 (bM (ZH.2 h))),tC (uB 57 (bM (ZH.2 h))),tC (uB 133 (bM (ZH.2 h))),tC (uB 129 (bM (ZH.2 h))),tC (pF 193 (cq h2)),tC (pF 211 (cq h2)),tC (pF 247 (cq h2)),tC (pF 199 (cq h2)),tC (uB 139 (bM (ZH.2 h))),tC (uB 136 (bM (ZH.2 h))),tC (pF 235 (cq h2)),tC (pF 233 (cq h2)),tC (pF 195 (cq h2)),tC (uB 15 (bM (ZH.2 h))),.aI _ _ _ _ _ (@Gk (zX) ((xC (-1) W 0 0 0 0 0 0)) b hb hl k bad w rr mm W n m0 m1 h h2)] (by kernel_rfl)
theorem OH (b:List Int) (hb:dx b) (hl:b.length≤1000) (k:Nat) (bad w half:Bool) (rr mm W:Int) (n0:0≤aM b k) (n1:aM b k≤255) (n:Int) (m0:0≤n) (m1:n≤255) (h:n<112∨128≤n) (h2:n<184∨192≤n) (q0:n≠137) (q1:n≠1) (q2:n≠9) (q3:n≠33) (q4:n≠41) (q5:n≠49) (q6:n≠57) (q7:n≠133) (q8:n≠129) (q9:n≠193) (de:n≠211) (dr:n≠247) (dw:n≠199) (du:n≠139) (dt:n≠136) (dn:n≠235) (q16:n≠233) (q17:n≠195) (q18:n≠15):aF Zy (dB aaq 0) fQ 3 (tQ b n half) [aA zX,bR b (↑k:Int) bad w rr mm,aA (xC (-1) W 0 0 0 0 0 0)] .norm (tU b) ([aA zX,bR b (↑k:Int) bad w rr mm,aA (xC (-1) W 0 0 0 0 0 0)]):=aF.aj mixed [tC (by ((try simp only [aG,cO] at*);(try unfold dK at*);omega):(n==137)=false),tC (by ((try simp only [aG,cO] at*);(try unfold dK at*);omega):(n==1)=false),tC (by ((try simp only [aG,cO] at*);(try unfold dK at*);omega):(n==9)=false),tC (by ((try simp only [aG,cO] at*);(try unfold dK at*);omega):(n==33)=false),tC (by ((try simp only [aG,cO] at*);(try unfold dK at*);omega):(n==41)=false),tC (by ((try simp only [aG,cO] at*);(try unfold dK at*);omega):(n==49)=false),tC (by ((try simp only [aG,cO] at*);(try unfold dK at*);omega):(n==57)=false),tC (by ((try simp only [aG,cO] at*);(try unfold dK at*);omega):(n==133)=false),tC (by ((try simp only [aG,cO] at*);(try unfold dK at*);omega):(n==129)=false),tC (by ((try simp only [aG,cO] at*);(try unfold dK at*);omega):(n==193)=false),tC (by ((try simp only [aG,cO] at*);(try unfold dK at*);omega):(n==211)=false),tC (by ((try simp only [aG,cO] at*);(try unfold dK at*);omega):(n==247)=false),tC (by ((try simp only [aG,cO] at*);(try unfold dK at*);omega):(n==199)=false),tC (by ((try simp only [aG,cO] at*);(try unfold dK at*);omega):(n==139)=false),tC (by ((try simp only [aG,cO] at*);(try unfold dK at*);omega):(n==136)=false),tC (by ((try simp only [aG,cO] at*);(try unfold dK at*);omega):(n==235)=false),tC (by ((try simp only [aG,cO] at*);(try unfold dK at*);omega):(n==233)=false),tC (by ((try simp only [aG,cO] at*);(try unfold dK at*);omega):(n==195)=false),tC (by ((try simp only [aG,cO] at*);(try unfold dK at*);omega):(n==15)=false),.aI _ _ _ _ _ (@JJ (zX) ((xC (-1) W 0 0 0 0 0 0)) b hb hl k bad w rr mm W n m0 m1 h h2)] (by kernel_rfl)
end Go.Proofs.YtbfpahigdpigpaaGreat
namespace Go.Ev
open Go
structure NP where
  x:XS
  at_:Nat
  bad:Bool
def ph (n:Int):Int:=if n=1 then 2 else if n=9 then 3 else if n=33 then 4 else if n=41 then 5 else if n=49 then 6 else if n=57 then 7 else if n=133 then 8 else -1
def mV (b:List Int) (W rr mm:Int) (k:Nat) (bad:Bool):NP:=
  let v:=aM b k
  let k1:=aN b k
  let x1:=cu b k bad
  let u:=aM b k1
  if v=175 then ⟨⟨16,W,di u rr,dc u mm,0,0,0,0⟩,aN b k1,gq b k1 x1⟩
  else if v=5 then ⟨⟨31,0,0,0,0,0,0,0⟩,k1,x1⟩
  else if 64≤v∧v<80 then ⟨⟨25,W,di u rr,dc u mm,0,0,0,aaY.i8.wrap (aaY.i64.wrap (v - 64))⟩,aN b k1,gq b k1 x1⟩
  else if 128≤v∧v<144 then ⟨⟨29,W,0,0,0,0,eN b k1,aaY.i8.wrap (aaY.i64.wrap (v - 128))⟩,dF b k1,dI b k1 x1⟩
  else if v=182 then ⟨⟨26,8,di u rr,0,dc u mm,eN b (dZ b k1),0,0⟩,dF b (dZ b k1),dI b (dZ b k1) (j3 b k1 x1)⟩
  else if v=183 then ⟨⟨26,16,di u rr,0,dc u mm,eN b (dZ b k1),0,0⟩,dF b (dZ b k1),dI b (dZ b k1) (j3 b k1 x1)⟩
  else ⟨⟨-1,W,0,0,0,0,0,0⟩,k1,x1⟩
def sx (b:List Int) (n:Int) (W mm:Int) (k:Nat) (bad:Bool):NP:=
  if 112≤n∧n<128 then ⟨⟨29,8,0,0,0,0,uo b k,aaY.i8.wrap (aaY.i64.wrap (n - 112))⟩,aN b k,cu b k bad⟩
  else if 184≤n∧n<192 then ⟨⟨1,W,aaY.i8.wrap (aaY.i8.wrap (aaY.i64.wrap (n - 184))+aaY.i8.wrap (8*mm)),0,0,0,eN b k,0⟩,dF b k,dI b k bad⟩
  else ⟨⟨-1,W,0,0,0,0,0,0⟩,k,bad⟩
def mA (b:List Int) (n o W ab:Int) (k:Nat) (bad:Bool):NP:=
  if n=129∨o=15 then ⟨⟨o,W,ab,0,0,0,eN b k,0⟩,dF b k,dI b k bad⟩
  else if n=193 then ⟨⟨o,W,ab,0,0,0,aM b k,0⟩,aN b k,cu b k bad⟩
  else ⟨⟨o,W,ab,0,0,0,0,0⟩,k,bad⟩
def bQ (b:List Int) (n:Int) (half:Bool) (W rr mm:Int) (k:Nat) (bad:Bool):NP:=
  let v:=aM b k
  let k1:=aN b k
  if n=137 then
    (if k<b.length∧v<192 then ⟨⟨27,if half then 16 else W,0,di v rr,dc v mm,eN b (dZ b k),0,0⟩,dF b (dZ b k),dI b (dZ b k) (j3 b k bad)⟩
    else ⟨⟨0,W,dc v mm,di v rr,0,0,0,0⟩,k1,gq b k bad⟩)
  else if n=1∨n=9∨n=33∨n=41∨n=49∨n=57∨n=133 then ⟨⟨ph n,W,dc v mm,di v rr,0,0,0,0⟩,k1,gq b k bad⟩
  else if n=129∨n=193∨n=211∨n=247 then mA b n (jR n (di v rr%8)) W (dc v mm) k1 (gq b k bad)
  else if n=199 then ⟨⟨1,W,dc v mm,0,0,0,eN b k1,0⟩,dF b k1,dI b k1 (gq b k bad)⟩
  else if n=139 then ⟨⟨26,W,di v rr,0,dc v mm,eN b (dZ b k),0,0⟩,dF b (dZ b k),dI b (dZ b k) (j3 b k bad)⟩
  else if n=136 then ⟨⟨27,8,0,di v rr,dc v mm,eN b (dZ b k),0,0⟩,dF b (dZ b k),dI b (dZ b k) (j3 b k bad)⟩
  else if n=235 then ⟨⟨28,8,0,0,0,0,uo b k,0⟩,k1,cu b k bad⟩
  else if n=233 then ⟨⟨28,W,0,0,0,0,eN b k,0⟩,dF b k,dI b k bad⟩
  else if n=195 then ⟨⟨30,0,0,0,0,0,0,0⟩,k,bad⟩
  else if n=15 then mV b W rr mm k bad
  else sx b n W mm k bad
def lG (b:List Int):NP:=bQ b (IW b 0) (aM b 0==102) (if kK b 0 then 64 else 32) (J7 b 0) (J9 b 0) (ER b 0) (MG b 0 false)
def Lw (b:List Int):Option XS:=
  let r:=lG b
  if r.bad=false∧nW r.x=true∧(cW r.x).length=r.at_∧cW r.x=b.take r.at_ then some r.x else none
theorem fj {b:List Int} {k:Nat} {c:Int} {t:List Int} (h:b.drop k=c::t):k<b.length∧aM b k=c∧aN b k=k+1∧(∀x,cu b k x=x)∧b.drop (k+1)=t:=by
 have hk:k<b.length:=by
  rcases Nat.lt_or_ge k b.length with h'|h'
  ·exact h'
  ·rw [List.drop_eq_nil_of_le h'] at h;cases h
 have e:=List.drop_eq_getElem_cons hk
 rw [h] at e
 obtain ⟨e1,e2⟩:=List.cons.inj e
 refine ⟨hk,?_,?_,?_,e2.symm⟩
 ·unfold aM;rw [ZF,List.getElem?_eq_getElem hk];exact e1.symm
 ·unfold aN;rw [if_pos hk]
 ·intro x;unfold cu;rw [bM (by omega),Bool.or_false]
theorem lZ {b:List Int} {k:Nat} {n:Int} {t:List Int} (n0: -2147483648≤n) (n1:n≤2147483647) (h:b.drop k=a8 n++t):
  eN b k=n∧dF b k=k+4∧(∀x,dI b k x=x)∧b.drop (k+4)=t:=by
 simp only [a8,ZG,ZT] at h
 obtain ⟨_,v0,a0,x0,h1⟩:=fj h
 obtain ⟨_,v1,a1,x1,h2⟩:=fj h1
 obtain ⟨_,v2,a2,x2,h3⟩:=fj h2
 obtain ⟨_,v3,a3,x3,h4⟩:=fj h3
 refine ⟨?_,?_,?_,h4⟩
 ·unfold eN
  rw [a0,a1,a2,v0,v1,v2,v3,nS]
  omega
 ·unfold dF;rw [a0,a1,a2,a3]
 ·intro x;unfold dI;rw [a0,a1,a2,x0,x1,x2,x3]
theorem sw {b:List Int} {k:Nat} {r m:Int} {t:List Int} (r0:0≤r) (r1:r≤15) (m0:0≤m) (m1:m≤15) (h:b.drop k=bm r m::t):
  ¬aM b k<192∧di (aM b k) (r / 8)=r∧dc (aM b k) (m / 8)=m∧aN b k=k+1∧(∀x,gq b k x=x)∧b.drop (k+1)=t:=by
 obtain ⟨_,v0,a0,x0,h1⟩:=fj h
 have hg:=EE (m:=m) r0 m0
 have hb:0≤bm r m∧bm r m≤255:=by unfold bm;omega
 refine ⟨by rw [v0];exact hg,?_,?_,a0,?_,h1⟩
 ·rw [v0,EH hb (by omega),pa r0 r1 m0 m1]
 ·rw [v0,EG hb (by omega),lY r0 r1 m0 m1]
 ·intro x;unfold gq;rw [x0,v0,bM hg,Bool.or_false]
theorem Ce {b:List Int} {k:Nat} {r m:Int} {t:List Int} (r0:0≤r) (r1:r≤7) (m0:0≤m) (m1:m≤15) (h:b.drop k=bm r m::t):
  di (aM b k) 0%8=r∧dc (aM b k) (m / 8)=m∧aN b k=k+1∧(∀x,gq b k x=x)∧b.drop (k+1)=t:=by
 obtain ⟨_,h1,h2,h3,h4,h5⟩:=sw r0 (by omega) m0 m1 h
 rw [show r / 8=0 by omega] at h1
 exact ⟨by rw [h1];omega,h2,h3,h4,h5⟩
theorem mU {b:List Int} {k:Nat} {r m d:Int} {t:List Int} (r0:0≤r) (r1:r≤15) (m0:0≤m) (m1:m≤15) (d0: -2147483648≤d) (d1:d≤2147483647) (h:b.drop k=bA r m d++t):
  k<b.length∧aM b k<192∧di (aM b k) (r / 8)=r∧dc (aM b k) (m / 8)=m∧eN b (dZ b k)=d∧dF b (dZ b k)=k+(bA r m d).length∧(∀x,dI b (dZ b k) (j3 b k x)=x):=by
 have hb:0≤128+8*(r%8)+m%8∧128+8*(r%8)+m%8≤255:=by omega
 have fin:k<b.length→aM b k=128+8*(r%8)+m%8→k<b.length∧aM b k<192∧di (aM b k) (r / 8)=r∧dc (aM b k) (m / 8)=m:=by
  intro hk v0
  refine ⟨hk,by omega,?_,?_⟩
  ·rw [v0,EH hb (by omega)];omega
  ·rw [v0,EG hb (by omega)];omega
 unfold bA at h
 by_cases hm:m%8=4
 ·rw [if_pos hm] at h
  simp only [ZG] at h
  obtain ⟨hk,v0,a0,x0,h1⟩:=fj h
  obtain ⟨_,v1,a1,x1,h2⟩:=fj h1
  obtain ⟨f1,f2,f3,f4⟩:=lZ d0 d1 h2
  obtain ⟨g1,g2,g3,g4⟩:=fin hk v0
  have hq:aM b k%8=4:=by omega
  have ek:dZ b k=k+1+1:=by unfold dZ;rw [if_pos hq,a0,a1]
  refine ⟨g1,g2,g3,g4,by rw [ek];exact f1,?_,?_⟩
  ·rw [ek,f2];unfold bA;rw [if_pos hm];simp [a8]
  ·intro x
   rw [ek,f3]
   simp only [j3,if_pos hq]
   rw [a0,x1,x0,v1,v0,bM (by omega),bM (by omega),bM (by decide)]
   simp
 ·rw [if_neg hm] at h
  simp only [ZG] at h
  obtain ⟨hk,v0,a0,x0,h1⟩:=fj h
  obtain ⟨f1,f2,f3,f4⟩:=lZ d0 d1 h1
  obtain ⟨g1,g2,g3,g4⟩:=fin hk v0
  have hq:¬aM b k%8=4:=by omega
  have ek:dZ b k=k+1:=by unfold dZ;rw [if_neg hq,a0]
  refine ⟨g1,g2,g3,g4,by rw [ek];exact f1,?_,?_⟩
  ·rw [ek,f2];unfold bA;rw [if_neg hm];simp [a8]
  ·intro x
   rw [ek,f3]
   simp only [j3,if_neg hq]
   rw [x0,v0,bM (by omega),bM (by omega)]
   simp
theorem JW {b:List Int} {p:Nat} (hp:ur b 0=p) (hx:xv b 0 false=false) {wide al:Bool} {r m c:Int} {t:List Int} (r0:0≤r) (r1:r≤15) (m0:0≤m) (m1:m≤15)
  (c0:0≤c) (c1:c≤255) (hc:¬(64≤c∧c≤79)) (h:b.drop p=bp wide r m al++c::t):
  IW b 0=c∧b.drop (ER b 0)=t∧ER b 0=p+(bp wide r m al).length+1∧MG b 0 false=false∧kK b 0=wide∧J7 b 0=r / 8∧J9 b 0=m / 8:=by
 unfold bp at h ⊢
 by_cases hn:bW wide r m al=true
 ·rw [if_pos hn] at h ⊢
  simp only [ZG,ZT] at h
  obtain ⟨_,v0,a0,x0,h1⟩:=fj h
  obtain ⟨_,v1,a1,x1,h2⟩:=fj h1
  have hr:64≤da wide r m∧da wide r m≤79∧da wide r m / 2%2=0∧da wide r m / 4%2=r / 8∧da wide r m%2=m / 8∧(da wide r m / 8%2=1↔wide=true):=by
   unfold da
   cases wide<;>simp<;>omega
  have q:J8 b 0=true:=by unfold J8 EO;rw [hp,v0,cq (by omega)]
  unfold IW ER MG kK J7 J9
  rw [q,hp,hx]
  simp only [if_true,Bool.true_and]
  rw [a0,v0,v1,a1,x0,x1,hr.2.2.1,hr.2.2.2.1,hr.2.2.2.2.1]
  refine ⟨rfl,h2,rfl,by simp,?_,rfl,rfl⟩
  cases wide
  ·exact bM (fun e=>by have:=hr.2.2.2.2.2.1 e;cases this)
  ·exact cq (hr.2.2.2.2.2.2 rfl)
 ·rw [if_neg hn] at h ⊢
  simp only [ZT] at h
  obtain ⟨_,v0,a0,x0,h1⟩:=fj h
  have q:J8 b 0=false:=by unfold J8 EO;rw [hp,v0,bM (by omega)]
  simp only [bW,ZV,bX,not_or,Bool.not_eq_true] at hn
  unfold IW ER MG kK J7 J9
  rw [q,hp,hx]
  simp only [Bool.false_eq_true,if_false,Bool.false_and]
  rw [a0,v0,x0]
  refine ⟨rfl,h1,rfl,rfl,hn.1.1.symm,by omega,by omega⟩
theorem Gu {b:List Int} {c:Int} {t:List Int} (h:b=c::t) (hc:c≠102):(aM b 0==102)=false∧ur b 0=0∧xv b 0 false=false:=by
 have v:aM b 0=c:=by rw [h];rfl
 unfold ur xv
 rw [v]
 exact ⟨by simpa using hc,by rw [if_neg hc],by rw [if_neg hc]⟩
theorem Mu {b:List Int} {t:List Int} (h:b=102::t):(aM b 0==102)=true∧ur b 0=1∧xv b 0 false=false:=by
 have v:aM b 0=102:=by rw [h];rfl
 unfold ur xv
 rw [v]
 refine ⟨rfl,?_,?_⟩
 ·rw [if_pos rfl,h];rfl
 ·rw [if_pos rfl,h];rfl
theorem gy {b:List Int} {wide al:Bool} {r m c:Int} {t:List Int} (r0:0≤r) (r1:r≤15) (m0:0≤m) (m1:m≤15) (c0:0≤c) (c1:c≤255) (hc:¬(64≤c∧c≤79)) (h2:c≠102)
  (h:b=bp wide r m al++c::t):∃k,k=(bp wide r m al).length+1∧b.drop k=t∧lG b=bQ b c false (if wide then 64 else 32) (r / 8) (m / 8) k false:=by
 have hh:(aM b 0==102)=false∧ur b 0=0∧xv b 0 false=false:=by
  cases e:b with
  |nil=>rw [e] at h;have:=congrArg ZA h;simp at this
  |cons a u=>
   refine Gu rfl ?_
   have:=CT (wide:=wide) (al:=al) (t:=t) r0 r1 m0 m1 h2
   rw [← h,e] at this
   exact this
 obtain ⟨e1,e2,e3,e4,e5,e6,e7⟩:=JW hh.2.1 hh.2.2 r0 r1 m0 m1 c0 c1 hc (by rw [aaD];exact h)
 refine ⟨ER b 0,by rw [e3];omega,e2,?_⟩
 unfold lG
 rw [e1,e4,e5,e6,e7,hh.1]
theorem LU {b:List Int} {wide al:Bool} {r m c:Int} {t:List Int} (r0:0≤r) (r1:r≤15) (m0:0≤m) (m1:m≤15) (c0:0≤c) (c1:c≤255) (hc:¬(64≤c∧c≤79))
  (h:b=102::(bp wide r m al++c::t)):∃k,k=(bp wide r m al).length+2∧b.drop k=t∧lG b=bQ b c true (if wide then 64 else 32) (r / 8) (m / 8) k false:=by
 have hh:=Mu h
 obtain ⟨e1,e2,e3,e4,e5,e6,e7⟩:=JW hh.2.1 hh.2.2 r0 r1 m0 m1 c0 c1 hc (by rw [h];rfl)
 refine ⟨ER b 0,by rw [e3];omega,e2,?_⟩
 unfold lG
 rw [e1,e4,e5,e6,e7,hh.1]
theorem lN {b:List Int} {c:Int} {t:List Int} (c0:0≤c) (c1:c≤255) (hc:¬(64≤c∧c≤79)) (h2:c≠102) (h:b=c::t):b.drop 1=t∧lG b=bQ b c false 32 0 0 1 false:=by
 obtain ⟨k,hk,h3,h4⟩:=gy (b:=b) (wide:=false) (al:=false) (r:=0) (m:=0) (c:=c) (t:=t) (by decide) (by decide) (by decide) (by decide) c0 c1 hc h2 (by rw [h];rfl)
 obtain rfl:k=1:=by rw [hk];rfl
 exact ⟨h3,h4⟩
def PT:List LK:= [.int .u8]
def Pq (ds:List D):D:=ds.headD .undef
theorem Bf (ds:List D) (h:oH PT ds):(Pq ds).cells=some ds:=by
 simp only [PT,oH] at h
 obtain ⟨n,r,rfl,_,rfl⟩:=h
 rfl
theorem DX:∀(xs:List (List D)),(∀ds∈xs,oH PT ds)→∃l:List Int,xs.map Pq=bD l∧dx l∧l.length=xs.length
 | [],_=>⟨[],rfl,iZ,rfl⟩
 |ds::r,h=>by
  obtain ⟨l,e,ho,hl⟩:=DX r (fun d hd=>h d (List.mem_cons_of_mem _ hd))
  have h1:=h ds (List.mem_cons_self ..)
  simp only [PT,oH] at h1
  obtain ⟨n,r',rfl,hn,rfl⟩:=h1
  refine ⟨n::l,by rw [List.map_cons,e];rfl,fM.2 ⟨?_,ho⟩,by simp [hl]⟩
  simp [aaY.has,aaY.min,aaY.max,aaY.signed,aaY.bits] at hn
  omega
theorem yv (a:List Int) (n:Nat):bD (a.take n)=(bD a).take n:=by simp [bD,List.map_take]
theorem Gt {x:XS} (h:nW x=true) (t:List Int):iC (cW x++t)=some x:=by
 have hd:jK (cW x++t)=x:=Ba h t
 unfold iC
 rw [hd,if_pos]
 unfold jo
 rw [h,Bool.true_and,aaN]
 exact List.prefix_append _ _
theorem uJ {b:List Int} {x:XS} (h:iC b=some x):nW x=true∧cW x<+:b:=by
 unfold iC at h
 split at h
 ·rename_i hf
  cases h
  unfold jo at hf
  rw [ZD,aaN] at hf
  exact hf
 ·cases h
theorem nv (w:Bool) (r m:Int) (al:Bool):(bp w r m al).length≤1:=by unfold bp;split<;>simp
theorem Fg (r b d:Int):(bA r b d).length=5∨(bA r b d).length=6:=by unfold bA a8;split<;>simp
theorem IC (x:XS):1≤(cW x).length∧(cW x).length≤11:=by
 unfold cW aD
 have r1:=nv (decide (x.w=64)) x.ae x.ab false
 have r2:=nv (decide (x.w=64)) x.ab x.ae false
 have r3:=nv false 0 x.ab false
 have r4:=nv (decide (x.w=64)) 0 x.ab false
 have r5:=nv (decide (x.w=64)) x.ab x.aa false
 have r6:=nv (decide (x.w=64)) x.ae x.aa (decide (x.w=8))
 have m1:=Fg x.ab x.aa x.af
 have m2:=Fg x.ae x.aa x.af
 have ite:∀ {c:Prop} [Decidable c] {a b:List Int} {m n:Nat},(m≤a.length∧a.length≤n)→(m≤b.length∧b.length≤n)→(m≤(if c then a else b).length∧(if c then a else b).length≤n):=by
  intro c _ a b m n h1 h2
  by_cases hc:c
  ·rw [if_pos hc];exact h1
  ·rw [if_neg hc];exact h2
 have sm:∀ {l:List Int} {m n:Nat},m≤l.length→l.length≤n→(m≤l.length∧l.length≤n):=fun a b=>⟨a,b⟩
 have l7:= @ite (x.w=8) _ [15,182] (if x.w=16 then [15,183] else [139]) 1 2 (by simp) (ite (by simp) (by simp))
 have l8:= @ite (x.w=16) _ [102] [] 0 1 (by simp) (by simp)
 have l9:= @ite (x.w=8) _ [136] [137] 1 1 (by simp) (by simp)
 refine ite (by simp only [ZR,ZZ,Z5];omega) (ite (by simp only [ZR,ZZ,Z5];omega) (ite (by simp only [ZR,ZZ,Z5];omega) (ite (ite (by simp only [ZR,ZZ,Z5,a8];omega) (by simp only [ZR,ZZ,Z5,a8];omega)) (ite (by simp only [ZR,ZZ,Z5];omega) (ite (by simp only [ZR,ZZ,Z5];omega) (ite ?_ (ite ?_ (ite (ite (by simp) (by simp [a8])) (ite (ite (by simp) (by simp [a8])) (ite (by simp) (by simp)))))))))))
 ·rw [ZR,ZR];omega
 ·rw [ZR,ZR,ZR];omega
end Go.Ev
