import Derived.Test.YtbfpahigdpigpaaGreatQ07
import Derived.Test.YtbfpahigdpigpaaGreatQ08
import Derived.Test.YtbfpahigdpigpaaGreatQ09
import Derived.Test.YtbfpahigdpigpaaGreatQ12
import Derived.Test.YtbfpahigdpigpaaGreatQ13
import Derived.Test.YtbfpahigdpigpaaGreatQ15
import Derived.Test.YtbfpahigdpigpaaGreatQ16
open List renaming replicate→Z7,length→aaa,getD_eq_getElem?_getD→aaf,cons_append→aag,length_append→aap,nil_append→aav,length_cons→aaw,length_nil→aaC,drop_zero→aa0,isPrefixOf_iff_prefix→abo
open BitVec renaming ofInt→Z8
open Go.Proofs.Tryz renaming prog→Z9,f21→aa2
open Int renaming lt_add_one_of_le→aac,not_lt→aah,toNat→aal
open Bool renaming and_eq_true→aae,or_eq_true→aax,not_eq_true'→aaK,not_eq_false'→aaU
open Go renaming IntKind→abz
/- Contracts and plain laws that a statement's proof leans on (texts merged:XQ6,XQ6A,XQ7,XQ7A,XQ1G,XQ1H,XQ2G,XQ2H,XQ8,MdRe,MdP4). -/
set_option linter.unusedVariables false
set_option linter.unusedSimpArgs false
set_option maxRecDepth 100000
set_option maxHeartbeats 8000000
namespace Go.Proofs.YtbfpahigdpigpaaGreat
open Go Go.Ev
theorem gO (op:Int) (o0:0≤op) (o1:op≤31):aP Z9 35 ([ao op]) (aC (yT op)):=by
 by_cases h0:op=0
 ·subst h0
  exact (rf (d:= .int .u8 137) [tT]).to (by simp only [wk,D.int.injEq,fm];decide)
 let E1:EL:= [tC (bc h0)]
 by_cases h1:op=2
 ·subst h1
  exact (rf (d:= .int .u8 1) (E1++ [tT])).to (by clear E1;simp only [wk,D.int.injEq,fm];decide)
 let E2:EL:=E1++ [tC (bc h1)]
 by_cases h2:op=3
 ·subst h2
  exact (rf (d:= .int .u8 9) (E2++ [tT])).to (by clear E1 E2;simp only [wk,D.int.injEq,fm];decide)
 let E3:EL:=E2++ [tC (bc h2)]
 by_cases h3:op=4
 ·subst h3
  exact (rf (d:= .int .u8 33) (E3++ [tT])).to (by clear E1 E2 E3;simp only [wk,D.int.injEq,fm];decide)
 let E4:EL:=E3++ [tC (bc h3)]
 by_cases h4:op=5
 ·subst h4
  exact (rf (d:= .int .u8 41) (E4++ [tT])).to (by clear E1 E2 E3 E4;simp only [wk,D.int.injEq,fm];decide)
 let E5:EL:=E4++ [tC (bc h4)]
 by_cases h5:op=6
 ·subst h5
  exact (rf (d:= .int .u8 49) (E5++ [tT])).to (by clear E1 E2 E3 E4 E5;simp only [wk,D.int.injEq,fm];decide)
 let E6:EL:=E5++ [tC (bc h5)]
 by_cases h6:op=7
 ·subst h6
  exact (rf (d:= .int .u8 57) (E6++ [tT])).to (by clear E1 E2 E3 E4 E5 E6;simp only [wk,D.int.injEq,fm];decide)
 let E7:EL:=E6++ [tC (bc h6)]
 by_cases h7:op=8
 ·subst h7
  exact (rf (d:= .int .u8 133) (E7++ [tT])).to (by clear E1 E2 E3 E4 E5 E6 E7;simp only [wk,D.int.injEq,fm];decide)
 let E8:EL:=E7++ [tC (bc h7)]
 by_cases h8:op=9
 ·subst h8
  exact (rf (d:= .int .u8 0) (E8++ [tT,tT])).to (by clear E1 E2 E3 E4 E5 E6 E7 E8;simp only [wk,D.int.injEq,fm];decide)
 let E9:EL:=E8++ [tC (bc h8)]
 by_cases h9:op=15
 ·subst h9
  exact (rf (d:= .int .u8 0) (E9++ [tT])).to (by clear E1 E2 E3 E4 E5 E6 E7 E8 E9;simp only [wk,D.int.injEq,fm];decide)
 let E10:EL:=E9++ [tC (bc h9)]
 by_cases Vo:op=10
 ·subst Vo
  exact (rf (d:= .int .u8 1) (E10++ [tT])).to (by clear E1 E2 E3 E4 E5 E6 E7 E8 E9 E10;simp only [wk,D.int.injEq,fm];decide)
 let E11:EL:=E10++ [tC (bc Vo)]
 by_cases Wm:op=11
 ·subst Wm
  exact (rf (d:= .int .u8 4) (E11++ [tT,tT])).to (by clear E1 E2 E3 E4 E5 E6 E7 E8 E9 E10 E11;simp only [wk,D.int.injEq,fm];decide)
 let E12:EL:=E11++ [tC (bc Wm)]
 by_cases Xa:op=17
 ·subst Xa
  exact (rf (d:= .int .u8 4) (E12++ [tT,tT])).to (by clear E1 E2 E3 E4 E5 E6 E7 E8 E9 E10 E11 E12;simp only [wk,D.int.injEq,fm];decide)
 let E13:EL:=E12++ [tC (bc Xa)]
 by_cases h13:op=20
 ·subst h13
  exact (rf (d:= .int .u8 4) (E13++ [tT])).to (by clear E1 E2 E3 E4 E5 E6 E7 E8 E9 E10 E11 E12 E13;simp only [wk,D.int.injEq,fm];decide)
 let E14:EL:=E13++ [tC (bc h13)]
 by_cases h14:op=12
 ·subst h14
  exact (rf (d:= .int .u8 5) (E14++ [tT,tT])).to (by clear E1 E2 E3 E4 E5 E6 E7 E8 E9 E10 E11 E12 E13 E14;simp only [wk,D.int.injEq,fm];decide)
 let E15:EL:=E14++ [tC (bc h14)]
 by_cases h15:op=18
 ·subst h15
  exact (rf (d:= .int .u8 5) (E15++ [tT,tT])).to (by clear E1 E2 E3 E4 E5 E6 E7 E8 E9 E10 E11 E12 E13 E14 E15;simp only [wk,D.int.injEq,fm];decide)
 let E16:EL:=E15++ [tC (bc h15)]
 by_cases h16:op=21
 ·subst h16
  exact (rf (d:= .int .u8 5) (E16++ [tT])).to (by clear E1 E2 E3 E4 E5 E6 E7 E8 E9 E10 E11 E12 E13 E14 E15 E16;simp only [wk,D.int.injEq,fm];decide)
 let E17:EL:=E16++ [tC (bc h16)]
 by_cases h17:op=13
 ·subst h17
  exact (rf (d:= .int .u8 6) (E17++ [tT,tT])).to (by clear E1 E2 E3 E4 E5 E6 E7 E8 E9 E10 E11 E12 E13 E14 E15 E16 E17;simp only [wk,D.int.injEq,fm];decide)
 let E18:EL:=E17++ [tC (bc h17)]
 by_cases h18:op=24
 ·subst h18
  exact (rf (d:= .int .u8 6) (E18++ [tT])).to (by clear E1 E2 E3 E4 E5 E6 E7 E8 E9 E10 E11 E12 E13 E14 E15 E16 E17 E18;simp only [wk,D.int.injEq,fm];decide)
 by_cases h19:op=14
 ·subst h19
  exact (rf (d:= .int .u8 7) (E18++ [tC (bc h18),tT,tT])).to (by clear E1 E2 E3 E4 E5 E6 E7 E8 E9 E10 E11 E12 E13 E14 E15 E16 E17 E18;simp only [wk,D.int.injEq,fm];decide)
 let E19:EL:=E18++ [tC (bc h18),tC (bc h19)]
 by_cases h20:op=19
 ·subst h20
  exact (rf (d:= .int .u8 7) (E19++ [tT,tT])).to (by clear E1 E2 E3 E4 E5 E6 E7 E8 E9 E10 E11 E12 E13 E14 E15 E16 E17 E18 E19;simp only [wk,D.int.injEq,fm];decide)
 by_cases h21:op=22
 ·subst h21
  exact (rf (d:= .int .u8 7) (E19++ [tC (bc h20),tT])).to (by clear E1 E2 E3 E4 E5 E6 E7 E8 E9 E10 E11 E12 E13 E14 E15 E16 E17 E18 E19;simp only [wk,D.int.injEq,fm];decide)
 by_cases h22:op=23
 ·subst h22
  exact (rf (d:= .int .u8 3) (E19++ [tC (bc h20),tC (bc h21),tT])).to (by clear E1 E2 E3 E4 E5 E6 E7 E8 E9 E10 E11 E12 E13 E14 E15 E16 E17 E18 E19;simp only [wk,D.int.injEq,fm];decide)
 exact (rf (d:= .int .u8 0) (E19++ [tC (bc h20),tC (bc h21),tC (bc h22)])).to (by clear E1 E2 E3 E4 E5 E6 E7 E8 E9 E10 E11 E12 E13 E14 E15 E16 E17 E18 E19;simp only [wk,D.int.injEq,fm];unfold yT ba bI;(repeat split)<;>omega)
theorem HO (n op:Int) (o0:0≤op) (o1:op≤31) (n0:0≤n) (n1:n≤7) (hc:bm op=2) (di:op≠15) (q1:op≠1) (hn:yT op=n):aB Z9 (cq Tryz.f36 0) ⟨[4],[],[]⟩ 0 ((av 129)::(ao n)::(uu)::(uu)::(uu)::(ao op)::(un 71)) [] (Ex.ret) (un 4++(ao op)::(un 72)) ([]):=by
 have c0:= @aG op
 have c1:= @gO op o0 o1
 exact aB.ai mixed ([tC (eH 31 (b8 (aac o1))),aw c0,tT,tT,tT,tC (eT (cK 2 true (by ((try simp only [ie] at*);omega):bm op=2))),tC (eT (cK 2 true (by ((try simp only [ie] at*);omega):bm op=2))),tC (cK 2 true (by ((try simp only [ie] at*);omega):bm op=2)),tC (eT (nt (by ((try simp only [ie] at*);omega):(op==15)=false))),tC (eT (nt (by ((try simp only [ie] at*);omega):(op==15)=false))),tC (nt (by ((try simp only [ie] at*);omega):(op==15)=false))]++Z7 4 (tC (eF (nt (by ((try simp only [ie] at*);omega):(op==1)=false))))++ [tC (nt (by ((try simp only [ie] at*);omega):(op==1)=false))]++Z7 8 tF++(cr 8 225++ [aw c1,tT,tT,tT,tT,tC (by ((try simp only [ie] at*);omega):(yT op==abz.wrap abz.u8 n)=true)])) (by kernel_rfl)
def Ep (Ua:Int) (WL:Int):Prop:= ∀(n op:Int) (o0:0≤op) (o1:op≤31) (n0:0≤n) (n1:n≤7) (hc:bm op≠Ua),aB Z9 (cq Tryz.f36 0) ⟨[0,1,5],[],[]⟩ 0 ((av WL)::(ao n)::(uu)::(uu)::(uu)::(ao op)::(un 71)) [] .norm ((av WL)::(ao n)::(uu)::(uu)::(uu)::(ao (abz.wrap abz.i8 (op+1)))::(un 71)) ([])
theorem M9:Ep 2 129:=by
 intro n op o0 o1 n0 n1 hc
 have c0:= @aG op
 exact aB.ai mixed (([tC (eH 31 (b8 (aac o1))),aw c0,tT,tT,tT,tC (eT (by ((try simp only [ie] at*);omega):(bm op==2)=false)),tC (eT (by ((try simp only [ie] at*);omega):(bm op==2)=false)),tC (by ((try simp only [ie] at*);omega):(bm op==2)=false)]++cr 39 278713940280)++Z7 9 tF) (by kernel_rfl)
theorem M8 (n op:Int) (o0:0≤op) (o1:op≤31) (n0:0≤n) (n1:n≤7) (hc:bm op=2) (di:op≠15) (q1:op≠1) (hn:yT op≠n):aB Z9 (cq Tryz.f36 0) ⟨[0,1,5],[],[]⟩ 0 ((av 129)::(ao n)::(uu)::(uu)::(uu)::(ao op)::(un 71)) [] .norm ((av 129)::(ao n)::(uu)::(uu)::(uu)::(ao (abz.wrap abz.i8 (op+1)))::(un 71)) ([]):=by
 have c0:= @aG op
 have c1:= @gO op o0 o1
 exact aB.ai mixed ([tC (eH 31 (b8 (aac o1))),aw c0,tT,tT,tT,tC (eT (cK 2 true (by ((try simp only [ie] at*);omega):bm op=2))),tC (eT (cK 2 true (by ((try simp only [ie] at*);omega):bm op=2))),tC (cK 2 true (by ((try simp only [ie] at*);omega):bm op=2)),tC (eT (nt (by ((try simp only [ie] at*);omega):(op==15)=false))),tC (eT (nt (by ((try simp only [ie] at*);omega):(op==15)=false))),tC (nt (by ((try simp only [ie] at*);omega):(op==15)=false))]++Z7 4 (tC (eF (nt (by ((try simp only [ie] at*);omega):(op==1)=false))))++ [tC (nt (by ((try simp only [ie] at*);omega):(op==1)=false))]++Z7 8 tF++(cr 8 225++ [aw c1,tT,tT,tT,tT,tC (by ((try simp only [ie] at*);omega):(yT op==abz.wrap abz.u8 n)=false)])) (by kernel_rfl)
def yP (Ua:Int) (WL:Int) (Zx:Int):Prop:= ∀(n:Int) (n0:0≤n) (n1:n≤7),aB Z9 (cq Tryz.f36 0) ⟨[0,1,5],[],[]⟩ 0 ((av Ua)::(ao n)::(uu)::(uu)::(uu)::(ao WL)::(un 71)) [] .norm ((av Ua)::(ao n)::(uu)::(uu)::(uu)::(ao Zx)::(un 71)) ([])
theorem La:yP 129 15 16:=by
 intro n n0 n1
 have c0:= @aG 15
 exact aB.ai mixed (([tT,aw c0]++cr 45 17837692177983)++Z7 9 tF) (by kernel_rfl)
theorem Na:yP 129 1 2:=by
 intro n n0 n1
 have c0:= @aG 1
 exact aB.ai mixed ([tT,aw c0]++Z7 12 tT++(cr 33 4354905316)++Z7 9 tF) (by kernel_rfl)
theorem HM (n op:Int) (o0:0≤op) (o1:op≤31) (n0:0≤n) (n1:n≤7) (hc:bm op=3) (hn:yT op=n):aB Z9 (cq Tryz.f36 0) ⟨[4],[],[]⟩ 0 ((av 193)::(ao n)::(uu)::(uu)::(uu)::(ao op)::(un 71)) [] (Ex.ret) (un 4++(ao op)::(un 72)) ([]):=by
 have c0:= @aG op
 have c1:= @gO op o0 o1
 exact aB.ai mixed ([tC (eH 31 (b8 (aac o1))),aw c0]++Z7 9 tF++(cr 8 127)++Z7 8 (tC (eF (cK 3 true (by ((try simp only [ie] at*);omega):bm op=3))))++ [tC (cK 3 true (by ((try simp only [ie] at*);omega):bm op=3)),tF,tF,tF,tF,tT,tT,tT,aw c1,tT,tT,tT,tT,tC (by ((try simp only [ie] at*);omega):(yT op==abz.wrap abz.u8 n)=true)]) (by kernel_rfl)
theorem M7:Ep 3 193:=by
 intro n op o0 o1 n0 n1 hc
 have c0:= @aG op
 exact aB.ai mixed ([tC (eH 31 (b8 (aac o1))),aw c0]++Z7 9 tF++(cr 8 127)++Z7 3 (tC (eF (by ((try simp only [ie] at*);omega):(bm op==3)=false)))++([tF,tF,tC (eF (by ((try simp only [ie] at*);omega):(bm op==3)=false)),tF,tC (eF (by ((try simp only [ie] at*);omega):(bm op==3)=false)),tF,tF,tC (eF (by ((try simp only [ie] at*);omega):(bm op==3)=false)),tF,tC (eF (by ((try simp only [ie] at*);omega):(bm op==3)=false)),tF,tF,tC (eF (by ((try simp only [ie] at*);omega):(bm op==3)=false)),tF,tC (by ((try simp only [ie] at*);omega):(bm op==3)=false)]++cr 10 519)++Z7 9 tF) (by kernel_rfl)
theorem M6 (n op:Int) (o0:0≤op) (o1:op≤31) (n0:0≤n) (n1:n≤7) (hc:bm op=3) (hn:yT op≠n):aB Z9 (cq Tryz.f36 0) ⟨[0,1,5],[],[]⟩ 0 ((av 193)::(ao n)::(uu)::(uu)::(uu)::(ao op)::(un 71)) [] .norm ((av 193)::(ao n)::(uu)::(uu)::(uu)::(ao (abz.wrap abz.i8 (op+1)))::(un 71)) ([]):=by
 have c0:= @aG op
 have c1:= @gO op o0 o1
 exact aB.ai mixed ([tC (eH 31 (b8 (aac o1))),aw c0]++Z7 9 tF++(cr 8 127)++Z7 8 (tC (eF (cK 3 true (by ((try simp only [ie] at*);omega):bm op=3))))++ [tC (cK 3 true (by ((try simp only [ie] at*);omega):bm op=3)),tF,tF,tF,tF,tT,tT,tT,aw c1,tT,tT,tT,tT,tC (by ((try simp only [ie] at*);omega):(yT op==abz.wrap abz.u8 n)=false)]) (by kernel_rfl)
theorem HK (n op:Int) (o0:0≤op) (o1:op≤31) (n0:0≤n) (n1:n≤7) (hc:bm op=4) (ZW:op≠23) (Z5:op≠24) (hn:yT op=n):aB Z9 (cq Tryz.f36 0) ⟨[4],[],[]⟩ 0 ((av 211)::(ao n)::(uu)::(uu)::(uu)::(ao op)::(un 71)) [] (Ex.ret) (un 4++(ao op)::(un 72)) ([]):=by
 have c0:= @aG op
 have c1:= @gO op o0 o1
 exact aB.ai mixed ([tC (eH 31 (b8 (aac o1))),aw c0]++Z7 9 tF++(cr 8 39)++Z7 8 tT++ [tC (eT (cK 4 true (by ((try simp only [ie] at*);omega):bm op=4))),tC (eT (cK 4 true (by ((try simp only [ie] at*);omega):bm op=4))),tT,tC (cK 4 true (by ((try simp only [ie] at*);omega):bm op=4)),tT,tC (eT (nt (by ((try simp only [ie] at*);omega):(op==23)=false))),tC (eT (nt (by ((try simp only [ie] at*);omega):(op==23)=false))),tT,tC (nt (by ((try simp only [ie] at*);omega):(op==23)=false)),tF]++Z7 4 (tC (eF (nt (by ((try simp only [ie] at*);omega):(op==24)=false))))++ [tC (nt (by ((try simp only [ie] at*);omega):(op==24)=false)),tT,tT,aw c1,tT,tT,tT,tT,tC (by ((try simp only [ie] at*);omega):(yT op==abz.wrap abz.u8 n)=true)]) (by kernel_rfl)
theorem M5:Ep 4 211:=by
 intro n op o0 o1 n0 n1 hc
 have c0:= @aG op
 exact aB.ai mixed ([tC (eH 31 (b8 (aac o1))),aw c0]++Z7 9 tF++(cr 8 39)++Z7 8 tT++([tC (eT (by ((try simp only [ie] at*);omega):(bm op==4)=false)),tC (eT (by ((try simp only [ie] at*);omega):(bm op==4)=false)),tT,tC (by ((try simp only [ie] at*);omega):(bm op==4)=false)]++cr 16 33225)++Z7 9 tF) (by kernel_rfl)
theorem M4 (n op:Int) (o0:0≤op) (o1:op≤31) (n0:0≤n) (n1:n≤7) (hc:bm op=4) (ZW:op≠23) (Z5:op≠24) (hn:yT op≠n):aB Z9 (cq Tryz.f36 0) ⟨[0,1,5],[],[]⟩ 0 ((av 211)::(ao n)::(uu)::(uu)::(uu)::(ao op)::(un 71)) [] .norm ((av 211)::(ao n)::(uu)::(uu)::(uu)::(ao (abz.wrap abz.i8 (op+1)))::(un 71)) ([]):=by
 have c0:= @aG op
 have c1:= @gO op o0 o1
 exact aB.ai mixed ([tC (eH 31 (b8 (aac o1))),aw c0]++Z7 9 tF++(cr 8 39)++Z7 8 tT++ [tC (eT (cK 4 true (by ((try simp only [ie] at*);omega):bm op=4))),tC (eT (cK 4 true (by ((try simp only [ie] at*);omega):bm op=4))),tT,tC (cK 4 true (by ((try simp only [ie] at*);omega):bm op=4)),tT,tC (eT (nt (by ((try simp only [ie] at*);omega):(op==23)=false))),tC (eT (nt (by ((try simp only [ie] at*);omega):(op==23)=false))),tT,tC (nt (by ((try simp only [ie] at*);omega):(op==23)=false)),tF]++Z7 4 (tC (eF (nt (by ((try simp only [ie] at*);omega):(op==24)=false))))++ [tC (nt (by ((try simp only [ie] at*);omega):(op==24)=false)),tT,tT,aw c1,tT,tT,tT,tT,tC (by ((try simp only [ie] at*);omega):(yT op==abz.wrap abz.u8 n)=false)]) (by kernel_rfl)
theorem K9:yP 211 23 24:=by
 intro n n0 n1
 have c0:= @aG 23
 exact aB.ai mixed ([tT,aw c0]++Z7 9 tF++(cr 8 39)++Z7 13 tT++(cr 15 16612)++Z7 9 tF) (by kernel_rfl)
theorem K8:yP 211 24 25:=by
 intro n n0 n1
 have c0:= @aG 24
 exact aB.ai mixed ([tT,aw c0]++Z7 9 tF++(cr 8 39)++Z7 17 tT++(cr 11 1038)++Z7 9 tF) (by kernel_rfl)
def Eo (Ua:Int) (WL:Int):Prop:= ∀(n:Int) (n0:0≤n) (n1:n≤7) (hn:n=Ua),aB Z9 (cq Tryz.f36 0) ⟨[4],[],[]⟩ 0 ((av 247)::(ao n)::(uu)::(uu)::(uu)::(ao WL)::(un 71)) [] (Ex.ret) (un 4++(ao WL)::(un 72)) ([])
theorem K6:Eo 3 23:=by
 intro n n0 n1 hn
 have c0:= @aG 23
 have c1:= @gO 23 (by decide) (by decide)
 exact aB.ai mixed ([tT,aw c0]++Z7 9 tF++(cr 46 61147392026407++ [aw c1,tT,tT,tT])++ [tT,tC (by ((try simp only [ie] at*);omega):(3==abz.wrap abz.u8 n)=true)]) (by kernel_rfl)
def En (Ua:Int) (WL:Int) (Zx:Int):Prop:= ∀(n:Int) (n0:0≤n) (n1:n≤7) (hn:n≠Ua),aB Z9 (cq Tryz.f36 0) ⟨[0,1,5],[],[]⟩ 0 ((av 247)::(ao n)::(uu)::(uu)::(uu)::(ao WL)::(un 71)) [] .norm ((av 247)::(ao n)::(uu)::(uu)::(uu)::(ao Zx)::(un 71)) ([])
theorem HI:En 3 23 24:=by
 intro n n0 n1 hn
 have c0:= @aG 23
 have c1:= @gO 23 (by decide) (by decide)
 exact aB.ai mixed ([tT,aw c0]++Z7 9 tF++(cr 46 61147392026407++ [aw c1,tT,tT,tT])++ [tT,tC (by ((try simp only [ie] at*);omega):(3==abz.wrap abz.u8 n)=false)]) (by kernel_rfl)
theorem K5:Eo 6 24:=by
 intro n n0 n1 hn
 have c0:= @aG 24
 have c1:= @gO 24 (by decide) (by decide)
 exact aB.ai mixed ([tT,aw c0]++Z7 9 tF++(cr 26 9742119)++Z7 9 tT++(cr 11 1778++ [aw c1,tT,tT,tT,tT,tC (by ((try simp only [ie] at*);omega):(6==abz.wrap abz.u8 n)=true)])) (by kernel_rfl)
theorem HH:En 6 24 25:=by
 intro n n0 n1 hn
 have c0:= @aG 24
 have c1:= @gO 24 (by decide) (by decide)
 exact aB.ai mixed ([tT,aw c0]++Z7 9 tF++(cr 26 9742119)++Z7 9 tT++(cr 11 1778++ [aw c1,tT,tT,tT,tT,tC (by ((try simp only [ie] at*);omega):(6==abz.wrap abz.u8 n)=false)])) (by kernel_rfl)
theorem K7:Eo 0 15:=by
 intro n n0 n1 hn
 have c0:= @aG 15
 have c1:= @gO 15 (by decide) (by decide)
 exact aB.ai mixed ([tT,aw c0]++Z7 9 tF++(cr 26 9742119)++Z7 9 tT++(cr 11 1758++ [aw c1,tT,tT,tT,tT,tC (by ((try simp only [ie] at*);omega):(0==abz.wrap abz.u8 n)=true)])) (by kernel_rfl)
theorem HJ:En 0 15 16:=by
 intro n n0 n1 hn
 have c0:= @aG 15
 have c1:= @gO 15 (by decide) (by decide)
 exact aB.ai mixed ([tT,aw c0]++Z7 9 tF++(cr 26 9742119)++Z7 9 tT++(cr 11 1758++ [aw c1,tT,tT,tT,tT,tC (by ((try simp only [ie] at*);omega):(0==abz.wrap abz.u8 n)=false)])) (by kernel_rfl)
theorem M3 (n op:Int) (o0:0≤op) (o1:op≤31) (n0:0≤n) (n1:n≤7) (di:op≠15) (ZW:op≠23) (Z5:op≠24):aB Z9 (cq Tryz.f36 0) ⟨[0,1,5],[],[]⟩ 0 ((av 247)::(ao n)::(uu)::(uu)::(uu)::(ao op)::(un 71)) [] .norm ((av 247)::(ao n)::(uu)::(uu)::(uu)::(ao (abz.wrap abz.i8 (op+1)))::(un 71)) ([]):=by
 have c0:= @aG op
 exact aB.ai mixed ([tC (eH 31 (b8 (aac o1))),aw c0]++Z7 9 tF++(cr 32 4237600551++ [tC (eF (by ((try simp only [ie] at*);omega):(op==23)=false)),tC (eF (by ((try simp only [ie] at*);omega):(op==23)=false)),tT,tC (by ((try simp only [ie] at*);omega):(op==23)=false),tT,tC (eF (by ((try simp only [ie] at*);omega):(op==24)=false)),tC (eF (by ((try simp only [ie] at*);omega):(op==24)=false)),tT,tC (by ((try simp only [ie] at*);omega):(op==24)=false),tT,tT,tF])++Z7 5 (tC (eT (by ((try simp only [ie] at*);omega):(op==15)=false)))++ [tC (by ((try simp only [ie] at*);omega):(op==15)=false),tF]) (by kernel_rfl)
def yO (Ua:Int):Prop:= ∀(n:Int) (n0:0≤n) (n1:n≤7),aB Z9 (cq Tryz.f36 0) ⟨[],[],[]⟩ 0 ((av Ua)::(ao n)::(uu)::(uu)::(uu)::(ao 32)::(un 71)) [] (.exit 0) (un 77) ([])
theorem HP:yO 129:=by
 intro n n0 n1
 exact aB.ai mixed [tF] (by kernel_rfl)
theorem HN:yO 193:=by
 intro n n0 n1
 exact aB.ai mixed [tF] (by kernel_rfl)
theorem HL:yO 211:=by
 intro n n0 n1
 exact aB.ai mixed [tF] (by kernel_rfl)
theorem HG:yO 247:=by
 intro n n0 n1
 exact aB.ai mixed [tF] (by kernel_rfl)
abbrev MZ (aa n op:Int):List D:=([av aa,ao n,cF,cF,cF,ao op]++eA 71)
abbrev Rw (o:Int):List D:=([cF,cF,cF,cF,ao o]++eA 72)
abbrev Si:List D:=(eA 77)
theorem MT {aa n:Int} (Ul:aa=129∨aa=193∨aa=211∨aa=247) (n0:0≤n) (n1:n≤7) (op:Int) (o0:0≤op) (o1:op≤31) (h:lP aa n op=false):
  aB Z9 (cq Tryz.f36 0) ⟨[0,1,5],[],[]⟩ 0 (MZ aa n op) [] .norm (MZ aa n (op+1)) []:=by
 have hw:abz.i8.wrap (op+1)=op+1:=by rw [dk];omega
 rw [← hw]
 unfold lP KY at h
 rcases Ul with rfl|rfl|rfl|rfl
 ·simp only [if_true] at h
  by_cases U5:op=15
  ·subst U5;exact La n n0 n1
  by_cases c1:op=1
  ·subst c1;exact Na n n0 n1
  by_cases hc:bm op=2
  ·have:yT op≠n:=by intro e;rw [b8 ⟨hc,U5,c1⟩,b8 e] at h;cases h
   exact M8 n op o0 o1 n0 n1 hc U5 c1 this
  ·exact M9 n op o0 o1 n0 n1 hc
 ·simp only [show ¬(193:Int)=129 by decide,if_false,if_true] at h
  by_cases hc:bm op=3
  ·have:yT op≠n:=by intro e;rw [b8 hc,b8 e] at h;cases h
   exact M6 n op o0 o1 n0 n1 hc this
  ·exact M7 n op o0 o1 n0 n1 hc
 ·simp only [show ¬(211:Int)=129 by decide,show ¬(211:Int)=193 by decide,if_false,if_true] at h
  by_cases Vb:op=23
  ·subst Vb;exact K9 n n0 n1
  by_cases Vg:op=24
  ·subst Vg;exact K8 n n0 n1
  by_cases hc:bm op=4
  ·have:yT op≠n:=by intro e;rw [b8 ⟨hc,Vb,Vg⟩,b8 e] at h;cases h
   exact M4 n op o0 o1 n0 n1 hc Vb Vg this
  ·exact M5 n op o0 o1 n0 n1 hc
 ·simp only [show ¬(247:Int)=129 by decide,show ¬(247:Int)=193 by decide,show ¬(247:Int)=211 by decide,if_false] at h
  by_cases Vb:op=23
  ·subst Vb
   exact HI n n0 n1 (by rintro rfl;revert h;decide)
  by_cases Vg:op=24
  ·subst Vg
   exact HH n n0 n1 (by rintro rfl;revert h;decide)
  by_cases U5:op=15
  ·subst U5
   exact HJ n n0 n1 (by rintro rfl;revert h;decide)
  ·exact M3 n op o0 o1 n0 n1 U5 Vb Vg
theorem Pt {aa n:Int} (Ul:aa=129∨aa=193∨aa=211∨aa=247) (n0:0≤n) (n1:n≤7) (op:Int) (o0:0≤op) (o1:op≤31) (h:lP aa n op=true):
  aB Z9 (cq Tryz.f36 0) ⟨[4],[],[]⟩ 0 (MZ aa n op) [] .ret (Rw op) []:=by
 unfold lP KY at h
 rw [aae,bS] at h
 obtain ⟨h,hn⟩:=h
 rcases Ul with rfl|rfl|rfl|rfl
 ·simp only [if_true,bS] at h
  exact HO n op o0 o1 n0 n1 h.1 h.2.1 h.2.2 hn
 ·simp only [show ¬(193:Int)=129 by decide,if_false,if_true,bS] at h
  exact HM n op o0 o1 n0 n1 h hn
 ·simp only [show ¬(211:Int)=129 by decide,show ¬(211:Int)=193 by decide,if_false,if_true,bS] at h
  exact HK n op o0 o1 n0 n1 h.1 h.2.1 h.2.2 hn
 ·simp only [show ¬(247:Int)=129 by decide,show ¬(247:Int)=193 by decide,show ¬(247:Int)=211 by decide,if_false,bS] at h
  rcases h with rfl|rfl|rfl
  ·exact K6 n n0 n1 (by rw [← hn];rfl)
  ·exact K5 n n0 n1 (by rw [← hn];rfl)
  ·exact K7 n n0 n1 (by rw [← hn];rfl)
theorem vm {aa n:Int} (Ul:aa=129∨aa=193∨aa=211∨aa=247) (n0:0≤n) (n1:n≤7):∀(m j:Nat),j+m=32→match (hQ.drop j).find? (lP aa n) with
  |none=>bL Z9 (cq Tryz.f36 0) 0 (MZ aa n j) [] (.exit 0) Si []
  |some o=>bL Z9 (cq Tryz.f36 0) 0 (MZ aa n j) [] .ret (Rw o) []
 |0,j,hj=>by
  obtain rfl:j=32:=by omega
  rw [show (hQ.drop 32).find? (lP aa n)=none from rfl]
  rcases Ul with rfl|rfl|rfl|rfl
  ·exact bL.last (HP n n0 n1) (fun h=>by cases h)
  ·exact bL.last (HN n n0 n1) (fun h=>by cases h)
  ·exact bL.last (HL n n0 n1) (fun h=>by cases h)
  ·exact bL.last (HG n n0 n1) (fun h=>by cases h)
 |m+1,j,hj=>by
  have ih:=vm Ul n0 n1 m (j+1) (by omega)
  rw [AH (by omega),List.find?_cons]
  cases h:lP aa n (j:Int) with
  |true=>exact bL.last (Pt Ul n0 n1 j (by omega) (by omega) h) (fun h=>by cases h)
  |false=>
   have:=MT Ul n0 n1 j (by omega) (by omega) h
   rw [show ((j:Int)+1)=((j+1:Nat):Int) by omega] at this
   simp only
   split
   ·rename_i e;rw [e] at ih;exact bL.iw this ih
   ·rename_i r e;rw [e] at ih;exact bL.iw this ih
theorem N3 {n0:Nat} {c:Code} {t:List D} {s:List Ob} {ex:Ex} {t':List D} {s':List Ob} (h:b5 Z9 n0 c t s ex t' s'):b5 Z9 n0 c t s ex t' s':=h
theorem MV {aa n:Int} (Ul:aa=129∨aa=193∨aa=211∨aa=247) (n0:0≤n) (n1:n≤7):match hQ.find? (lP aa n) with
  |none=>b5 Z9 0 (.loop (cq Tryz.f36 0)) (MZ aa n 0) [] (.exit 0) Si []
  |some o=>b5 Z9 0 (.loop (cq Tryz.f36 0)) (MZ aa n 0) [] .ret (Rw o) []:=by
 have h:=vm Ul n0 n1 32 0 rfl
 rw [aa0] at h
 split
 ·rename_i e;rw [e] at h;exact b5.eK (by decide) h
 ·rename_i o e;rw [e] at h;exact b5.eK (by decide) h
theorem HD (aa n o:Int) (hx:b5 Z9 0 (.loop (cq Tryz.f36 0)) (MZ aa n 0) [] (.exit 0) (Si) []):aP Z9 36 ([av aa,ao n]) (ao (-1)):=by
 have c0:= @N3 (nat_lit 0) _ (([av aa,ao n,cF,cF,cF,ao 0]++eA 71)) ([]) _ _ _ hx
 exact (aP.ai (d:= .int .i8 (-1:Int)) mixed Tryz.func36 (by kernel_rfl) [.head ⟨[0,1,5],[],[]⟩ _ _ _ _ _ _ _ c0]).to (by rfl)
theorem Dd (aa n o:Int) (hx:b5 Z9 0 (.loop (cq Tryz.f36 0)) (MZ aa n 0) [] (.ret) (Rw o) []):aP Z9 36 ([av aa,ao n]) (ao o):=by
 have c0:= @N3 (nat_lit 0) _ (([av aa,ao n,cF,cF,cF,ao 0]++eA 71)) ([]) _ _ _ hx
 exact (aP.ai (d:= .int .i8 o) mixed Tryz.func36 (by kernel_rfl) [.head ⟨[0,1,5],[],[]⟩ _ _ _ _ _ _ _ c0]).to (by rfl)
theorem KZ {aa n:Int} (Ul:aa=129∨aa=193∨aa=211∨aa=247) (n0:0≤n) (n1:n≤7):aP Z9 36 [av aa,ao n] (ao (jz aa n)):=by
 have h:=MV Ul n0 n1
 unfold jz
 split at h
 ·rename_i e;rw [e];exact HD aa n 0 h
 ·rename_i o e;rw [e];exact Dd aa n o h
theorem Ir (X0 X2:List D) (b:List Int) (k:Nat) (bad w:Bool) (rr mm:Int) (l1:((bD b).length:Int)≤1000) (h:(k:Int)<((bD b).length:Int)) (v:Int) (hv:(bD b)[aal (abz.i64.wrap (abz.i64.wrap ((k:Int)+1) - 1))]? =some (aC v)):ak Z9 38 ([.ptr false 1 0]) ([ay X0,ay [aZ 1 (bD b),av ((k:Int)),ax bad,ax w,ao rr,ao mm],ay X2,aF]) (av (abz.i64.wrap v)) ([ay X0,ay [aZ 1 (bD b),av (abz.i64.wrap ((k:Int)+1)),ax bad,ax w,ao rr,ao mm],ay X2,aF]):=(ak.ai (aU:= [0,1,2,3]) (d:= .int .i64 (abz.wrap abz.i64 v)) (s':= [ay X0,ay [aZ 1 (bD b),av (abz.i64.wrap ((↑k:Int)+(1:Int))),ax bad,ax w,ao rr,ao mm],ay X2,aF]) mixed [tC (by ((try simp only [aQ,dk,bo,aN,bN,bS,cI,cz,ki,fO,bne_eq_false_iff_eq,aaK,aaU,aae,aax] at*);(try unfold dy at*);omega):(decide ((↑k:Int)≥(↑(aaa (bD b)):Int)))=false),.cX (decide ((0:Int)≤abz.i64.wrap (abz.i64.wrap ((↑k:Int)+(1:Int)) - (1:Int)))) true (by ((try simp only [aQ,dk,bo,aN,bN,bS,cI,cz,ki,fO,bne_eq_false_iff_eq,aaK,aaU,aae,aax] at*);(try unfold dy at*);omega)),.get _ _ _ hv]).cast (by rfl) (by rfl)
theorem DY (X0 X2:List D) (b:List Int) (k:Nat) (bad w:Bool) (rr mm:Int) (l1:((bD b).length:Int)≤1000) (h:((bD b).length:Int)≤(k:Int)):ak Z9 38 ([.ptr false 1 0]) ([ay X0,ay [aZ 1 (bD b),av ((k:Int)),ax bad,ax w,ao rr,ao mm],ay X2,aF]) (av 0) ([ay X0,ay [aZ 1 (bD b),av ((k:Int)),ax true,ax w,ao rr,ao mm],ay X2,aF]):=(ak.ai (aU:= [0,1,2,3]) (d:= .int .i64 0) (s':= [ay X0,ay [aZ 1 (bD b),av (↑k:Int),ax true,ax w,ao rr,ao mm],ay X2,aF]) mixed [tC (by ((try simp only [aQ,dk,bo,aN,bN,bS,cI,cz,ki,fO,bne_eq_false_iff_eq,aaK,aaU,aae,aax] at*);(try unfold dy at*);omega):(decide ((↑k:Int)≥(↑(aaa (bD b)):Int)))=true)]).cast (by rfl) (by rfl)
abbrev Ro (X0 X2:List D) (b:List Int) (k:Nat) (bad w:Bool) (rr mm:Int):List Ob:= [ay X0,ay [aZ 1 (bD b),av (k:Int),ax bad,ax w,ao rr,ao mm],ay X2,aF]
theorem mN (X0 X2:List D) (b:List Int) (hb:dr b) (hl:b.length≤1000) (k:Nat) (bad w:Bool) (rr mm:Int):ak Z9 38 [.ptr false 1 0] (Ro X0 X2 b k bad w rr mm) (av (aK b k)) (Ro X0 X2 b (aM b k) (cm b k bad) w rr mm):=by
 have l1:((bD b).length:Int)≤1000:=by rw [aQ];omega
 by_cases h:k<b.length
 ·have hw:abz.i64.wrap ((k:Int)+1)=((k+1:Nat):Int):=by rw [aN];omega
  have Vh:abz.i64.wrap (abz.i64.wrap ((k:Int)+1) - 1)=(k:Int):=by rw [hw,aN];omega
  have hv:(bD b)[aal (abz.i64.wrap (abz.i64.wrap ((k:Int)+1) - 1))]? =some (aC (aK b k)):=by
   rw [Vh,Int.toNat_natCast]
   unfold aK bD
   simp [h,aaf]
  have:=Ir X0 X2 b k bad w rr mm l1 (by rw [aQ];omega) (aK b k) hv
  have hr:=dL hb k
  have e:abz.i64.wrap (aK b k)=aK b k:=by rw [aN];omega
  have e1:aM b k=k+1:=by unfold aM;rw [if_pos h]
  have e2:cm b k bad=bad:=by unfold cm;rw [bF (by omega),Bool.or_false]
  rw [hw,e] at this
  rw [e1,e2]
  exact this
 ·have:=DY X0 X2 b k bad w rr mm l1 (by rw [aQ];omega)
  have e0:aK b k=0:=by unfold aK;rw [aaf,List.getElem?_eq_none (by omega)];rfl
  have e1:aM b k=k:=by unfold aM;rw [if_neg h]
  have e2:cm b k bad=true:=by unfold cm;rw [b8 (by omega),Bool.or_true]
  rw [e0,e1,e2]
  exact this
theorem Lt (X0 X2:List D) (b:List Int) (hb:dr b) (hl:b.length≤1000) (k:Nat) (bad w:Bool) (rr mm:Int) (u:Int) (hs:aP Z9 59 [au (abz.u64.wrap (abz.u64.wrap (abz.u64.wrap (abz.u64.wrap (0+abz.u64.wrap (abz.u64.wrap (aK b (k))*1))+abz.u64.wrap (abz.u64.wrap (aK b (aM b (k)))*256))+abz.u64.wrap (abz.u64.wrap (aK b (aM b (aM b (k))))*65536))+abz.u64.wrap (abz.u64.wrap (aK b (aM b (aM b (aM b (k)))))*16777216))),ao 32] (au u)):ak Z9 37 ([.ptr false 1 0,av 4]) ([ay X0,ay [aZ 1 (bD b),av ((k:Int)),ax (bad),ax w,ao rr,ao mm],ay X2,aF]) (av (abz.i64.wrap u)) ([ay X0,ay [aZ 1 (bD b),av ((aM b (aM b (aM b (aM b (k)))):Nat)),ax (cm b (aM b (aM b (aM b (k)))) (cm b (aM b (aM b (k))) (cm b (aM b (k)) (cm b (k) (bad))))),ax w,ao rr,ao mm],ay X2,aF,aF]):=(ak.ai (aU:= [0,1,2,3]) (d:= .int .i64 (abz.wrap abz.i64 u)) (s':= [ay X0,ay [aZ 1 (bD b),av (↑(aM b (aM b (aM b (aM b k)))):Int),ax (cm b (aM b (aM b (aM b k))) (cm b (aM b (aM b k)) (cm b (aM b k) (cm b k bad)))),ax w,ao rr,ao mm],ay X2,aF,aF]) mixed [.go 64,tT,.aH _ _ _ _ _ (@mN (X0) (X2) (b) hb hl (k) (bad) (w) (rr) (mm)),tT,tT,.aH _ _ _ _ _ (@mN (X0) (X2) (b) hb hl (aM b k) (cm b k bad) (w) (rr) (mm)),tT,tT,.aH _ _ _ _ _ (@mN (X0) (X2) (b) hb hl (aM b (aM b k)) (cm b (aM b k) (cm b k bad)) (w) (rr) (mm)),tT,tT,.aH _ _ _ _ _ (@mN (X0) (X2) (b) hb hl (aM b (aM b (aM b k))) (cm b (aM b (aM b k)) (cm b (aM b k) (cm b k bad))) (w) (rr) (mm)),tT,tF,aw hs]).cast (by rfl) (by rfl)
theorem qG (X0 X2:List D) (b:List Int) (hb:dr b) (hl:b.length≤1000) (k:Nat) (bad w:Bool) (rr mm:Int):ak Z9 37 [.ptr false 1 0,av 4] (Ro X0 X2 b k bad w rr mm) (av (ez b k)) (Ro X0 X2 b (dA b k) (dG b k bad) w rr mm++ [aF]):=by
 have h0:=dL hb k
 have h1:=dL hb (aM b k)
 have h2:=dL hb (aM b (aM b k))
 have h3:=dL hb (aM b (aM b (aM b k)))
 have e:=Oh h0 h1 h2 h3
 have:=Lt X0 X2 b hb hl k bad w rr mm (eV (aK b k+256*aK b (aM b k)+65536*aK b (aM b (aM b k))+16777216*aK b (aM b (aM b (aM b k)))) 32) (by rw [e];exact kv _)
 rw [Jv (by omega)] at this
 exact this
theorem MB (b:List Int) (hb:dr b) (hl:b.length≤1000) (k:Nat) (bad w half:Bool) (rr mm W:Int) (n0:0≤aK b k) (n1:aK b k≤255) (hk:(k:Int)<((bD b).length:Int)) (hv:(bD b)[aal (k:Int)]? =some (aC (aK b k))) (h:aK b k<192):aB Z9 (dx aa2 0) fQ 3 (tQ b 137 true) [ay zX,bR b (↑k:Int) bad w rr mm,ay (xC (-1) W 0 0 0 0 0 0)] .norm (tU b) ([ay zX,bR b (↑(dA b (dR b k)):Int) (dG b (dR b k) (jL b k bad)) w rr mm,ay (xC 27 16 0 (db (aK b k) rr) (cY (aK b k) mm) (ez b (dR b k)) 0 0)]):=aB.ai mixed ([tT]++Z7 6 (tC (eT (by ((try simp only [aQ,cH] at*);(try unfold dy at*);omega):(decide ((↑(aaa (bD b)):Int)>(↑k:Int)))=true)))++ [tT,.get _ _ _ hv,tC (eT (by ((try simp only [aQ,cH] at*);(try unfold dy at*);omega):(decide ((↑(aaa (bD b)):Int)>(↑k:Int)))=true)),tC (eT (by ((try simp only [aQ,cH] at*);(try unfold dy at*);omega):(decide ((↑(aaa (bD b)):Int)>(↑k:Int)))=true)),tC (by ((try simp only [aQ,cH] at*);(try unfold dy at*);omega):(decide ((↑(aaa (bD b)):Int)>(↑k:Int)))=true),tC (b8 h),.aH _ _ _ _ _ (@x6 (zX) ((xC 27 W 0 0 0 0 0 0)) b hb hl k bad w rr mm),tT]) (by kernel_rfl)
theorem MC (b:List Int) (hb:dr b) (hl:b.length≤1000) (k:Nat) (bad w half:Bool) (rr mm W:Int) (n0:0≤aK b k) (n1:aK b k≤255) (hk:(k:Int)<((bD b).length:Int)) (hv:(bD b)[aal (k:Int)]? =some (aC (aK b k))) (h:aK b k<192):aB Z9 (dx aa2 0) fQ 3 (tQ b 137 false) [ay zX,bR b (↑k:Int) bad w rr mm,ay (xC (-1) W 0 0 0 0 0 0)] .norm (tU b) ([ay zX,bR b (↑(dA b (dR b k)):Int) (dG b (dR b k) (jL b k bad)) w rr mm,ay (xC 27 W 0 (db (aK b k) rr) (cY (aK b k) mm) (ez b (dR b k)) 0 0)]):=aB.ai mixed ([tT]++Z7 6 (tC (eT (by ((try simp only [aQ,cH] at*);(try unfold dy at*);omega):(decide ((↑(aaa (bD b)):Int)>(↑k:Int)))=true)))++ [tT,.get _ _ _ hv,tC (eT (by ((try simp only [aQ,cH] at*);(try unfold dy at*);omega):(decide ((↑(aaa (bD b)):Int)>(↑k:Int)))=true)),tC (eT (by ((try simp only [aQ,cH] at*);(try unfold dy at*);omega):(decide ((↑(aaa (bD b)):Int)>(↑k:Int)))=true)),tC (by ((try simp only [aQ,cH] at*);(try unfold dy at*);omega):(decide ((↑(aaa (bD b)):Int)>(↑k:Int)))=true),tC (b8 h),.aH _ _ _ _ _ (@x6 (zX) ((xC 27 W 0 0 0 0 0 0)) b hb hl k bad w rr mm),tF]) (by kernel_rfl)
theorem OO (b:List Int) (hb:dr b) (hl:b.length≤1000) (k:Nat) (bad w half:Bool) (rr mm W:Int) (n0:0≤aK b k) (n1:aK b k≤255) (hk:(k:Int)<((bD b).length:Int)) (hv:(bD b)[aal (k:Int)]? =some (aC (aK b k))) (h:192≤aK b k):aB Z9 (dx aa2 0) fQ 3 (tQ b 137 half) [ay zX,bR b (↑k:Int) bad w rr mm,ay (xC (-1) W 0 0 0 0 0 0)] .norm (tU b) ([ay zX,bR b (↑(aM b k):Int) (gi b k bad) w rr mm,ay (xC 0 W (cY (aK b k) mm) (db (aK b k) rr) 0 0 0 0)]):=aB.ai mixed ([tT]++Z7 6 (tC (eT (by ((try simp only [aQ,cH] at*);(try unfold dy at*);omega):(decide ((↑(aaa (bD b)):Int)>(↑k:Int)))=true)))++ [tT,.get _ _ _ hv,tC (eT (by ((try simp only [aQ,cH] at*);(try unfold dy at*);omega):(decide ((↑(aaa (bD b)):Int)>(↑k:Int)))=true)),tC (eT (by ((try simp only [aQ,cH] at*);(try unfold dy at*);omega):(decide ((↑(aaa (bD b)):Int)>(↑k:Int)))=true)),tC (by ((try simp only [aQ,cH] at*);(try unfold dy at*);omega):(decide ((↑(aaa (bD b)):Int)>(↑k:Int)))=true),tC (bF (aah.2 h)),.aH _ _ _ _ _ (@gF (zX) ((xC 0 W 0 0 0 0 0 0)) b hb hl k bad w rr mm)]) (by kernel_rfl)
theorem OM (b:List Int) (hb:dr b) (hl:b.length≤1000) (k:Nat) (bad w half:Bool) (rr mm W:Int) (n0:0≤aK b k) (n1:aK b k≤255) (hk:((bD b).length:Int)≤(k:Int)):aB Z9 (dx aa2 0) fQ 3 (tQ b 137 half) [ay zX,bR b (↑k:Int) bad w rr mm,ay (xC (-1) W 0 0 0 0 0 0)] .norm (tU b) ([ay zX,bR b (↑(aM b k):Int) (gi b k bad) w rr mm,ay (xC 0 W (cY (aK b k) mm) (db (aK b k) rr) 0 0 0 0)]):=aB.ai mixed ([tT]++Z7 8 (tC (eT (by ((try simp only [aQ,cH] at*);(try unfold dy at*);omega):(decide ((↑(aaa (bD b)):Int)>(↑k:Int)))=false)))++ [tC (by ((try simp only [aQ,cH] at*);(try unfold dy at*);omega):(decide ((↑(aaa (bD b)):Int)>(↑k:Int)))=false),tF,.aH _ _ _ _ _ (@gF (zX) ((xC 0 W 0 0 0 0 0 0)) b hb hl k bad w rr mm)]) (by kernel_rfl)
def oi (Ua:Int) (WL:Int):Prop:= ∀(b:List Int) (hb:dr b) (hl:b.length≤1000) (k:Nat) (bad w half:Bool) (rr mm W:Int) (n0:0≤aK b k) (n1:aK b k≤255),aB Z9 (dx aa2 0) fQ 3 (tQ b Ua half) [ay zX,bR b (↑k:Int) bad w rr mm,ay (xC (-1) W 0 0 0 0 0 0)] .norm (tU b) ([ay zX,bR b (↑(aM b k):Int) (gi b k bad) w rr mm,ay (xC WL W (cY (aK b k) mm) (db (aK b k) rr) 0 0 0 0)])
theorem RQ:oi 1 2:=by
 intro b hb hl k bad w half rr mm W n0 n1
 exact aB.ai mixed (([tF,tT,tT,.go 64,tT,aO,tF,tT,tT,tT,aO,tF,tF,tT,tF,tT,aO,tF,tF,tF,tT,tF,tT,aO,tF,tF,tF,tF,tT,tF,tT,aO]++cr 8 160++ [aO]++cr 9 320)++([aO]++cr 10 128++ [.aH _ _ _ _ _ (@gF (zX) ((xC 2 W 0 0 0 0 0 0)) b hb hl k bad w rr mm)])) (by kernel_rfl)
theorem RP:oi 9 3:=by
 intro b hb hl k bad w half rr mm W n0 n1
 exact aB.ai mixed (([tF,tF,tT,tT,.go 64,tT,aO,tF,tT,tF,tT,aO,tF,tF,tT,tT,tT,aO,tF,tF,tF,tT,tF,tT,aO,tF,tF,tF,tF,tT,tF,tT,aO]++cr 8 160++ [aO]++cr 8 64)++([tT,aO]++cr 10 128++ [.aH _ _ _ _ _ (@gF (zX) ((xC 3 W 0 0 0 0 0 0)) b hb hl k bad w rr mm)])) (by kernel_rfl)
theorem Qk:oi 33 4:=by
 intro b hb hl k bad w half rr mm W n0 n1
 exact aB.ai mixed (([tF,tF,tF,tT,tT,.go 64,tT,aO,tF,tT,tF,tT,aO,tF,tF,tT,tF,tT,aO,tF,tF,tF,tT,tT,tT,aO,tF,tF,tF,tF,tT,tF,tT,aO]++cr 8 160++ [aO,tF,tF,tF,tF,tF,tF,tT])++([tF,tT,aO]++cr 10 128++ [.aH _ _ _ _ _ (@gF (zX) ((xC 4 W 0 0 0 0 0 0)) b hb hl k bad w rr mm)])) (by kernel_rfl)
theorem Qj:oi 41 5:=by
 intro b hb hl k bad w half rr mm W n0 n1
 exact aB.ai mixed (([tF,tF,tF,tF,tT,tT,.go 64,tT,aO,tF,tT,tF,tT,aO,tF,tF,tT,tF,tT,aO,tF,tF,tF,tT,tF,tT,aO,tF,tF,tF,tF,tT,tT,tT,aO]++cr 8 160++ [aO,tF,tF,tF,tF,tF,tF])++([tT,tF,tT,aO]++cr 10 128++ [.aH _ _ _ _ _ (@gF (zX) ((xC 5 W 0 0 0 0 0 0)) b hb hl k bad w rr mm)])) (by kernel_rfl)
theorem Qi:oi 49 6:=by
 intro b hb hl k bad w half rr mm W n0 n1
 exact aB.ai mixed (([tF,tF,tF,tF,tF,tT,tT,.go 64,tT,aO,tF,tT,tF,tT,aO,tF,tF,tT,tF,tT,aO,tF,tF,tF,tT,tF,tT,aO,tF,tF,tF,tF,tT,tF,tT,aO]++cr 8 224++ [aO,tF,tF,tF,tF,tF])++([tF,tT,tF,tT,aO]++cr 10 128++ [.aH _ _ _ _ _ (@gF (zX) ((xC 6 W 0 0 0 0 0 0)) b hb hl k bad w rr mm)])) (by kernel_rfl)
theorem Qh:oi 57 7:=by
 intro b hb hl k bad w half rr mm W n0 n1
 exact aB.ai mixed ((cr 8 192++ [.go 64,tT,aO,tF,tT,tF,tT,aO,tF,tF,tT,tF,tT,aO,tF,tF,tF,tT,tF,tT,aO,tF,tF,tF,tF,tT,tF,tT,aO]++cr 8 160++ [aO,tF,tF,tF,tF])++([tF,tF,tT,tT,tT,aO]++cr 10 128++ [.aH _ _ _ _ _ (@gF (zX) ((xC 7 W 0 0 0 0 0 0)) b hb hl k bad w rr mm)])) (by kernel_rfl)
theorem OG:oi 133 8:=by
 intro b hb hl k bad w half rr mm W n0 n1
 exact aB.ai mixed ((cr 8 128++ [.go 64,tT,aO,tF,tT,tF,tT,aO,tF,tF,tT,tF,tT,aO,tF,tF,tF,tT,tF,tT,aO,tF,tF,tF,tF,tT,tF,tT,aO]++cr 8 160++ [aO,tF,tF,tF,tF])++([tF,tF,tT,tF,tT,aO]++cr 10 384++ [.aH _ _ _ _ _ (@gF (zX) ((xC 8 W 0 0 0 0 0 0)) b hb hl k bad w rr mm)])) (by kernel_rfl)
theorem OJ (b:List Int) (hb:dr b) (hl:b.length≤1000) (k:Nat) (bad w half:Bool) (rr mm W:Int) (n0:0≤aK b k) (n1:aK b k≤255) (o:Int) (hg:aP Z9 36 [av 129,ao (abz.i8.wrap ((Z8 8 (db (aK b k) rr)&&&Z8 8 7).toNat:Int))] (ao o)):aB Z9 (dx aa2 0) fQ 3 (tQ b 129 half) [ay zX,bR b (↑k:Int) bad w rr mm,ay (xC (-1) W 0 0 0 0 0 0)] .norm (tU b) ([ay zX,bR b (↑(dA b (aM b k)):Int) (dG b (aM b k) (gi b k bad)) w rr mm,ay (xC o W (cY (aK b k) mm) 0 0 0 (ez b (aM b k)) 0)]):=aB.ai mixed (Z7 8 tF++ [tT,tT,.aH _ _ _ _ _ (@gF (zX) ((xC (-1) W 0 0 0 0 0 0)) b hb hl k bad w rr mm),aw hg,tF,tF,tF,tT,tT,.aH _ _ _ _ _ (@qG (zX) ((xC o W (cY (aK b k) mm) 0 0 0 0 0)) b hb hl (aM b k) (gi b k bad) w rr mm),tF]) (by kernel_rfl)
theorem OI (b:List Int) (hb:dr b) (hl:b.length≤1000) (k:Nat) (bad w half:Bool) (rr mm W:Int) (n0:0≤aK b k) (n1:aK b k≤255) (o:Int) (hg:aP Z9 36 [av 193,ao (abz.i8.wrap ((Z8 8 (db (aK b k) rr)&&&Z8 8 7).toNat:Int))] (ao o)) (ho:o≠15):aB Z9 (dx aa2 0) fQ 3 (tQ b 193 half) [ay zX,bR b (↑k:Int) bad w rr mm,ay (xC (-1) W 0 0 0 0 0 0)] .norm (tU b) ([ay zX,bR b (↑(aM b (aM b k)):Int) (cm b (aM b k) (gi b k bad)) w rr mm,ay (xC o W (cY (aK b k) mm) 0 0 0 (aK b (aM b k)) 0)]):=aB.ai mixed (Z7 9 tF++ [tT,tT,.aH _ _ _ _ _ (@gF (zX) ((xC (-1) W 0 0 0 0 0 0)) b hb hl k bad w rr mm),aw hg,tT,tT,tT,tF,tC (by ((try simp only [aQ,cH] at*);(try unfold dy at*);omega):(o==15)=false),tT,.aH _ _ _ _ _ (@mN (zX) ((xC o W (cY (aK b k) mm) 0 0 0 0 0)) b hb hl (aM b k) (gi b k bad) w rr mm)]) (by kernel_rfl)
theorem OH (b:List Int) (hb:dr b) (hl:b.length≤1000) (k:Nat) (bad w half:Bool) (rr mm W:Int) (n0:0≤aK b k) (n1:aK b k≤255) (o:Int) (hg:aP Z9 36 [av 211,ao (abz.i8.wrap ((Z8 8 (db (aK b k) rr)&&&Z8 8 7).toNat:Int))] (ao o)) (ho:o≠15):aB Z9 (dx aa2 0) fQ 3 (tQ b 211 half) [ay zX,bR b (↑k:Int) bad w rr mm,ay (xC (-1) W 0 0 0 0 0 0)] .norm (tU b) ([ay zX,bR b (↑(aM b k):Int) (gi b k bad) w rr mm,ay (xC o W (cY (aK b k) mm) 0 0 0 0 0)]):=aB.ai mixed (Z7 10 tF++ [tT,tT,.aH _ _ _ _ _ (@gF (zX) ((xC (-1) W 0 0 0 0 0 0)) b hb hl k bad w rr mm),aw hg,tT,tT,tT,tF,tC (by ((try simp only [aQ,cH] at*);(try unfold dy at*);omega):(o==15)=false),tF]) (by kernel_rfl)
theorem Mx (b:List Int) (hb:dr b) (hl:b.length≤1000) (k:Nat) (bad w half:Bool) (rr mm W:Int) (n0:0≤aK b k) (n1:aK b k≤255) (o:Int) (hg:aP Z9 36 [av 247,ao (abz.i8.wrap ((Z8 8 (db (aK b k) rr)&&&Z8 8 7).toNat:Int))] (ao o)) (ho:o≠15):aB Z9 (dx aa2 0) fQ 3 (tQ b 247 half) [ay zX,bR b (↑k:Int) bad w rr mm,ay (xC (-1) W 0 0 0 0 0 0)] .norm (tU b) ([ay zX,bR b (↑(aM b k):Int) (gi b k bad) w rr mm,ay (xC o W (cY (aK b k) mm) 0 0 0 0 0)]):=aB.ai mixed (Z7 11 tF++ [tT,.aH _ _ _ _ _ (@gF (zX) ((xC (-1) W 0 0 0 0 0 0)) b hb hl k bad w rr mm),aw hg,tT,tT,tT,tF,tC (by ((try simp only [aQ,cH] at*);(try unfold dy at*);omega):(o==15)=false),tF]) (by kernel_rfl)
theorem Mw (b:List Int) (hb:dr b) (hl:b.length≤1000) (k:Nat) (bad w half:Bool) (rr mm W:Int) (n0:0≤aK b k) (n1:aK b k≤255) (hg:aP Z9 36 [av 247,ao (abz.i8.wrap ((Z8 8 (db (aK b k) rr)&&&Z8 8 7).toNat:Int))] (ao 15)):aB Z9 (dx aa2 0) fQ 3 (tQ b 247 half) [ay zX,bR b (↑k:Int) bad w rr mm,ay (xC (-1) W 0 0 0 0 0 0)] .norm (tU b) ([ay zX,bR b (↑(dA b (aM b k)):Int) (dG b (aM b k) (gi b k bad)) w rr mm,ay (xC 15 W (cY (aK b k) mm) 0 0 0 (ez b (aM b k)) 0)]):=aB.ai mixed (Z7 11 tF++ [tT,.aH _ _ _ _ _ (@gF (zX) ((xC (-1) W 0 0 0 0 0 0)) b hb hl k bad w rr mm),aw hg,tT,tT,tT,tF,tT,.aH _ _ _ _ _ (@qG (zX) ((xC 15 W (cY (aK b k) mm) 0 0 0 0 0)) b hb hl (aM b k) (gi b k bad) w rr mm),tF]) (by kernel_rfl)
theorem Qn (b:List Int) (hb:dr b) (hl:b.length≤1000) (k:Nat) (bad w half:Bool) (rr mm W:Int) (n0:0≤aK b k) (n1:aK b k≤255):aB Z9 (dx aa2 0) fQ 3 (tQ b 199 half) [ay zX,bR b (↑k:Int) bad w rr mm,ay (xC (-1) W 0 0 0 0 0 0)] .norm (tU b) ([ay zX,bR b (↑(dA b (aM b k)):Int) (dG b (aM b k) (gi b k bad)) w rr mm,ay (xC 1 W (cY (aK b k) mm) 0 0 0 (ez b (aM b k)) 0)]):=aB.ai mixed (Z7 12 tF++ [tT,.aH _ _ _ _ _ (@gF (zX) ((xC 1 W 0 0 0 0 0 0)) b hb hl k bad w rr mm),.aH _ _ _ _ _ (@dV (zX) ((xC 1 W (cY (aK b k) mm) 0 0 0 0 0)) b hb hl (aM b k) (gi b k bad) w rr mm)]) (by kernel_rfl)
theorem Qp (b:List Int) (hb:dr b) (hl:b.length≤1000) (k:Nat) (bad w half:Bool) (rr mm W:Int) (n0:0≤aK b k) (n1:aK b k≤255):aB Z9 (dx aa2 0) fQ 3 (tQ b 139 half) [ay zX,bR b (↑k:Int) bad w rr mm,ay (xC (-1) W 0 0 0 0 0 0)] .norm (tU b) ([ay zX,bR b (↑(dA b (dR b k)):Int) (dG b (dR b k) (jL b k bad)) w rr mm,ay (xC 26 W (db (aK b k) rr) 0 (cY (aK b k) mm) (ez b (dR b k)) 0 0)]):=aB.ai mixed (Z7 13 tF++ [tT,.aH _ _ _ _ _ (@x6 (zX) ((xC 26 W 0 0 0 0 0 0)) b hb hl k bad w rr mm)]) (by kernel_rfl)
theorem Qq (b:List Int) (hb:dr b) (hl:b.length≤1000) (k:Nat) (bad w half:Bool) (rr mm W:Int) (n0:0≤aK b k) (n1:aK b k≤255):aB Z9 (dx aa2 0) fQ 3 (tQ b 136 half) [ay zX,bR b (↑k:Int) bad w rr mm,ay (xC (-1) W 0 0 0 0 0 0)] .norm (tU b) ([ay zX,bR b (↑(dA b (dR b k)):Int) (dG b (dR b k) (jL b k bad)) w rr mm,ay (xC 27 8 0 (db (aK b k) rr) (cY (aK b k) mm) (ez b (dR b k)) 0 0)]):=aB.ai mixed (Z7 14 tF++ [tT,.aH _ _ _ _ _ (@x6 (zX) ((xC 27 8 0 0 0 0 0 0)) b hb hl k bad w rr mm)]) (by kernel_rfl)
theorem Ql (b:List Int) (hb:dr b) (hl:b.length≤1000) (k:Nat) (bad w half:Bool) (rr mm W:Int) (n0:0≤aK b k) (n1:aK b k≤255):aB Z9 (dx aa2 0) fQ 3 (tQ b 235 half) [ay zX,bR b (↑k:Int) bad w rr mm,ay (xC (-1) W 0 0 0 0 0 0)] .norm (tU b) ([ay zX,bR b (↑(aM b k):Int) (cm b k bad) w rr mm,ay (xC 28 8 0 0 0 0 (uk b k) 0)]):=aB.ai mixed (Z7 15 tF++ [tT,.aH _ _ _ _ _ (@CV (zX) ((xC 28 8 0 0 0 0 0 0)) b hb hl k bad w rr mm)]) (by kernel_rfl)
theorem Qm (b:List Int) (hb:dr b) (hl:b.length≤1000) (k:Nat) (bad w half:Bool) (rr mm W:Int) (n0:0≤aK b k) (n1:aK b k≤255):aB Z9 (dx aa2 0) fQ 3 (tQ b 233 half) [ay zX,bR b (↑k:Int) bad w rr mm,ay (xC (-1) W 0 0 0 0 0 0)] .norm (tU b) ([ay zX,bR b (↑(dA b k):Int) (dG b k bad) w rr mm,ay (xC 28 W 0 0 0 0 (ez b k) 0)]):=aB.ai mixed (Z7 16 tF++ [tT,.aH _ _ _ _ _ (@dV (zX) ((xC 28 W 0 0 0 0 0 0)) b hb hl k bad w rr mm)]) (by kernel_rfl)
theorem Qo (b:List Int) (hb:dr b) (hl:b.length≤1000) (k:Nat) (bad w half:Bool) (rr mm W:Int) (n0:0≤aK b k) (n1:aK b k≤255):aB Z9 (dx aa2 0) fQ 3 (tQ b 195 half) [ay zX,bR b (↑k:Int) bad w rr mm,ay (xC (-1) W 0 0 0 0 0 0)] .norm (tU b) ([ay zX,bR b (↑k:Int) bad w rr mm,ay (xC 30 0 0 0 0 0 0 0)]):=aB.ai mixed (Z7 17 tF++ [tT]) (by kernel_rfl)
theorem My (b:List Int) (hb:dr b) (hl:b.length≤1000) (k:Nat) (bad w half:Bool) (rr mm W:Int) (n0:0≤aK b k) (n1:aK b k≤255) (h:aK b k=175):aB Z9 (dx aa2 0) fQ 3 (tQ b 15 half) [ay zX,bR b (↑k:Int) bad w rr mm,ay (xC (-1) W 0 0 0 0 0 0)] .norm (tU b) ([ay zX,bR b (↑(aM b (aM b k)):Int) (gi b (aM b k) (cm b k bad)) w rr mm,ay (xC 16 W (db (aK b (aM b k)) rr) (cY (aK b (aM b k)) mm) 0 0 0 0)]):=aB.ai mixed (Z7 18 tF++ [tT,.aH _ _ _ _ _ (@ID (zX) ((xC (-1) W 0 0 0 0 0 0)) b hb hl k bad w rr mm n0 n1 W h)]) (by kernel_rfl)
theorem Ka (b:List Int) (hb:dr b) (hl:b.length≤1000) (k:Nat) (bad w half:Bool) (rr mm W:Int) (n0:0≤aK b k) (n1:aK b k≤255) (h:aK b k=5):aB Z9 (dx aa2 0) fQ 3 (tQ b 15 half) [ay zX,bR b (↑k:Int) bad w rr mm,ay (xC (-1) W 0 0 0 0 0 0)] .norm (tU b) ([ay zX,bR b (↑(aM b k):Int) (cm b k bad) w rr mm,ay (xC 31 0 0 0 0 0 0 0)]):=aB.ai mixed (Z7 18 tF++ [tT,.aH _ _ _ _ _ (@Eh (zX) ((xC (-1) W 0 0 0 0 0 0)) b hb hl k bad w rr mm n0 n1 W h)]) (by kernel_rfl)
theorem Kb (b:List Int) (hb:dr b) (hl:b.length≤1000) (k:Nat) (bad w half:Bool) (rr mm W:Int) (n0:0≤aK b k) (n1:aK b k≤255) (h:64≤aK b k) (h2:aK b k<80):aB Z9 (dx aa2 0) fQ 3 (tQ b 15 half) [ay zX,bR b (↑k:Int) bad w rr mm,ay (xC (-1) W 0 0 0 0 0 0)] .norm (tU b) ([ay zX,bR b (↑(aM b (aM b k)):Int) (gi b (aM b k) (cm b k bad)) w rr mm,ay (xC 25 W (db (aK b (aM b k)) rr) (cY (aK b (aM b k)) mm) 0 0 0 (abz.wrap abz.i8 (abz.i64.wrap (aK b k - 64))))]):=aB.ai mixed (Z7 18 tF++ [tT,.aH _ _ _ _ _ (@Ei (zX) ((xC (-1) W 0 0 0 0 0 0)) b hb hl k bad w rr mm n0 n1 W h h2)]) (by kernel_rfl)
theorem MA (b:List Int) (hb:dr b) (hl:b.length≤1000) (k:Nat) (bad w half:Bool) (rr mm W:Int) (n0:0≤aK b k) (n1:aK b k≤255) (h:128≤aK b k) (h2:aK b k<144):aB Z9 (dx aa2 0) fQ 3 (tQ b 15 half) [ay zX,bR b (↑k:Int) bad w rr mm,ay (xC (-1) W 0 0 0 0 0 0)] .norm (tU b) ([ay zX,bR b (↑(dA b (aM b k)):Int) (dG b (aM b k) (cm b k bad)) w rr mm,ay (xC 29 W 0 0 0 0 (ez b (aM b k)) (abz.wrap abz.i8 (abz.i64.wrap (aK b k - 128))))]):=aB.ai mixed (Z7 18 tF++ [tT,.aH _ _ _ _ _ (@IG (zX) ((xC (-1) W 0 0 0 0 0 0)) b hb hl k bad w rr mm n0 n1 W h h2)]) (by kernel_rfl)
theorem OL (b:List Int) (hb:dr b) (hl:b.length≤1000) (k:Nat) (bad w half:Bool) (rr mm W:Int) (n0:0≤aK b k) (n1:aK b k≤255) (h:aK b k=182):aB Z9 (dx aa2 0) fQ 3 (tQ b 15 half) [ay zX,bR b (↑k:Int) bad w rr mm,ay (xC (-1) W 0 0 0 0 0 0)] .norm (tU b) ([ay zX,ay [aZ 1 (bD b),av (↑(dA b (dR b (aM b k))):Int),ax (dG b (dR b (aM b k)) (jL b (aM b k) (cm b k bad))),ax w,ao rr,ao mm],ay (xC 26 8 (db (aK b (aM b k)) rr) 0 (cY (aK b (aM b k)) mm) (ez b (dR b (aM b k))) 0 0)]):=aB.ai mixed (Z7 18 tF++ [tT,.aH _ _ _ _ _ (@LH (zX) ((xC (-1) W 0 0 0 0 0 0)) b hb hl k bad w rr mm n0 n1 W h)]) (by kernel_rfl)
theorem Mz (b:List Int) (hb:dr b) (hl:b.length≤1000) (k:Nat) (bad w half:Bool) (rr mm W:Int) (n0:0≤aK b k) (n1:aK b k≤255) (h:aK b k=183):aB Z9 (dx aa2 0) fQ 3 (tQ b 15 half) [ay zX,bR b (↑k:Int) bad w rr mm,ay (xC (-1) W 0 0 0 0 0 0)] .norm (tU b) ([ay zX,ay [aZ 1 (bD b),av (↑(dA b (dR b (aM b k))):Int),ax (dG b (dR b (aM b k)) (jL b (aM b k) (cm b k bad))),ax w,ao rr,ao mm],ay (xC 26 16 (db (aK b (aM b k)) rr) 0 (cY (aK b (aM b k)) mm) (ez b (dR b (aM b k))) 0 0)]):=aB.ai mixed (Z7 18 tF++ [tT,.aH _ _ _ _ _ (@IE (zX) ((xC (-1) W 0 0 0 0 0 0)) b hb hl k bad w rr mm n0 n1 W h)]) (by kernel_rfl)
theorem OK (b:List Int) (hb:dr b) (hl:b.length≤1000) (k:Nat) (bad w half:Bool) (rr mm W:Int) (n0:0≤aK b k) (n1:aK b k≤255) (q0:aK b k≠175) (q1:aK b k≠5) (q2:aK b k≠182) (q3:aK b k≠183) (h:aK b k<64∨80≤aK b k) (h2:aK b k<128∨144≤aK b k):aB Z9 (dx aa2 0) fQ 3 (tQ b 15 half) [ay zX,bR b (↑k:Int) bad w rr mm,ay (xC (-1) W 0 0 0 0 0 0)] .norm (tU b) ([ay zX,bR b (↑(aM b k):Int) (cm b k bad) w rr mm,ay (xC (-1) W 0 0 0 0 0 0)]):=aB.ai mixed (Z7 18 tF++ [tT,.aH _ _ _ _ _ (@LG (zX) ((xC (-1) W 0 0 0 0 0 0)) b hb hl k bad w rr mm n0 n1 W q0 q1 q2 q3 h h2)]) (by kernel_rfl)
theorem Mv (b:List Int) (hb:dr b) (hl:b.length≤1000) (k:Nat) (bad w half:Bool) (rr mm W:Int) (n0:0≤aK b k) (n1:aK b k≤255) (n:Int) (m0:0≤n) (m1:n≤255) (h:112≤n) (h2:n<128):aB Z9 (dx aa2 0) fQ 3 (tQ b n half) [ay zX,bR b (↑k:Int) bad w rr mm,ay (xC (-1) W 0 0 0 0 0 0)] .norm (tU b) ([ay zX,bR b (↑(aM b k):Int) (cm b k bad) w rr mm,ay (xC 29 8 0 0 0 0 (uk b k) (abz.wrap abz.i8 (abz.i64.wrap (n - 112))))]):=aB.ai mixed [tC (pv 137 (b8 h2)),tC (uA 1 (bF (aah.2 h))),tC (uA 9 (bF (aah.2 h))),tC (uA 33 (bF (aah.2 h))),tC (uA 41 (bF (aah.2 h))),tC (uA 49 (bF (aah.2 h))),tC (uA 57 (bF (aah.2 h))),tC (pv 133 (b8 h2)),tC (pv 129 (b8 h2)),tC (pv 193 (b8 h2)),tC (pv 211 (b8 h2)),tC (pv 247 (b8 h2)),tC (pv 199 (b8 h2)),tC (pv 139 (b8 h2)),tC (pv 136 (b8 h2)),tC (pv 235 (b8 h2)),tC (pv 233 (b8 h2)),tC (pv 195 (b8 h2)),tC (uA 15 (bF (aah.2 h))),.aH _ _ _ _ _ (@GB (zX) ((xC (-1) W 0 0 0 0 0 0)) b hb hl k bad w rr mm W n m0 m1 h h2)] (by kernel_rfl)
theorem Mu (b:List Int) (hb:dr b) (hl:b.length≤1000) (k:Nat) (bad w half:Bool) (rr mm W:Int) (n0:0≤aK b k) (n1:aK b k≤255) (n:Int) (m0:0≤n) (m1:n≤255) (h:184≤n) (h2:n<192):aB Z9 (dx aa2 0) fQ 3 (tQ b n half) [ay zX,bR b (↑k:Int) bad w rr mm,ay (xC (-1) W 0 0 0 0 0 0)] .norm (tU b) ([ay zX,bR b (↑(dA b k):Int) (dG b k bad) w rr mm,ay (xC 1 W (abz.wrap abz.i8 (abz.wrap abz.i8 (abz.i64.wrap (n - 184))+abz.wrap abz.i8 (8*mm))) 0 0 0 (ez b k) 0)]):=aB.ai mixed [tC (uA 137 (bF (aah.2 h))),tC (uA 1 (bF (aah.2 h))),tC (uA 9 (bF (aah.2 h))),tC (uA 33 (bF (aah.2 h))),tC (uA 41 (bF (aah.2 h))),tC (uA 49 (bF (aah.2 h))),tC (uA 57 (bF (aah.2 h))),tC (uA 133 (bF (aah.2 h))),tC (uA 129 (bF (aah.2 h))),tC (pv 193 (b8 h2)),tC (pv 211 (b8 h2)),tC (pv 247 (b8 h2)),tC (pv 199 (b8 h2)),tC (uA 139 (bF (aah.2 h))),tC (uA 136 (bF (aah.2 h))),tC (pv 235 (b8 h2)),tC (pv 233 (b8 h2)),tC (pv 195 (b8 h2)),tC (uA 15 (bF (aah.2 h))),.aH _ _ _ _ _ (@GA (zX) ((xC (-1) W 0 0 0 0 0 0)) b hb hl k bad w rr mm W n m0 m1 h h2)] (by kernel_rfl)
theorem OD (b:List Int) (hb:dr b) (hl:b.length≤1000) (k:Nat) (bad w half:Bool) (rr mm W:Int) (n0:0≤aK b k) (n1:aK b k≤255) (n:Int) (m0:0≤n) (m1:n≤255) (h:n<112∨128≤n) (h2:n<184∨192≤n) (q0:n≠137) (q1:n≠1) (q2:n≠9) (q3:n≠33) (q4:n≠41) (q5:n≠49) (q6:n≠57) (q7:n≠133) (q8:n≠129) (q9:n≠193) (cZ:n≠211) (dj:n≠247) (dq:n≠199) (dp:n≠139) (dn:n≠136) (di:n≠235) (q16:n≠233) (q17:n≠195) (q18:n≠15):aB Z9 (dx aa2 0) fQ 3 (tQ b n half) [ay zX,bR b (↑k:Int) bad w rr mm,ay (xC (-1) W 0 0 0 0 0 0)] .norm (tU b) ([ay zX,bR b (↑k:Int) bad w rr mm,ay (xC (-1) W 0 0 0 0 0 0)]):=aB.ai mixed [tC (by ((try simp only [aQ,cH] at*);(try unfold dy at*);omega):(n==137)=false),tC (by ((try simp only [aQ,cH] at*);(try unfold dy at*);omega):(n==1)=false),tC (by ((try simp only [aQ,cH] at*);(try unfold dy at*);omega):(n==9)=false),tC (by ((try simp only [aQ,cH] at*);(try unfold dy at*);omega):(n==33)=false),tC (by ((try simp only [aQ,cH] at*);(try unfold dy at*);omega):(n==41)=false),tC (by ((try simp only [aQ,cH] at*);(try unfold dy at*);omega):(n==49)=false),tC (by ((try simp only [aQ,cH] at*);(try unfold dy at*);omega):(n==57)=false),tC (by ((try simp only [aQ,cH] at*);(try unfold dy at*);omega):(n==133)=false),tC (by ((try simp only [aQ,cH] at*);(try unfold dy at*);omega):(n==129)=false),tC (by ((try simp only [aQ,cH] at*);(try unfold dy at*);omega):(n==193)=false),tC (by ((try simp only [aQ,cH] at*);(try unfold dy at*);omega):(n==211)=false),tC (by ((try simp only [aQ,cH] at*);(try unfold dy at*);omega):(n==247)=false),tC (by ((try simp only [aQ,cH] at*);(try unfold dy at*);omega):(n==199)=false),tC (by ((try simp only [aQ,cH] at*);(try unfold dy at*);omega):(n==139)=false),tC (by ((try simp only [aQ,cH] at*);(try unfold dy at*);omega):(n==136)=false),tC (by ((try simp only [aQ,cH] at*);(try unfold dy at*);omega):(n==235)=false),tC (by ((try simp only [aQ,cH] at*);(try unfold dy at*);omega):(n==233)=false),tC (by ((try simp only [aQ,cH] at*);(try unfold dy at*);omega):(n==195)=false),tC (by ((try simp only [aQ,cH] at*);(try unfold dy at*);omega):(n==15)=false),.aH _ _ _ _ _ (@JQ (zX) ((xC (-1) W 0 0 0 0 0 0)) b hb hl k bad w rr mm W n m0 m1 h h2)] (by kernel_rfl)
end Go.Proofs.YtbfpahigdpigpaaGreat
namespace Go.Ev
open Go
structure NI where
  x:XS
  at_:Nat
  bad:Bool
def oW (n:Int):Int:=if n=1 then 2 else if n=9 then 3 else if n=33 then 4 else if n=41 then 5 else if n=49 then 6 else if n=57 then 7 else if n=133 then 8 else -1
def mE (b:List Int) (W rr mm:Int) (k:Nat) (bad:Bool):NI:=
  let v:=aK b k
  let k1:=aM b k
  let x1:=cm b k bad
  let u:=aK b k1
  if v=175 then ⟨⟨16,W,db u rr,cY u mm,0,0,0,0⟩,aM b k1,gi b k1 x1⟩
  else if v=5 then ⟨⟨31,0,0,0,0,0,0,0⟩,k1,x1⟩
  else if 64≤v∧v<80 then ⟨⟨25,W,db u rr,cY u mm,0,0,0,abz.i8.wrap (abz.i64.wrap (v - 64))⟩,aM b k1,gi b k1 x1⟩
  else if 128≤v∧v<144 then ⟨⟨29,W,0,0,0,0,ez b k1,abz.i8.wrap (abz.i64.wrap (v - 128))⟩,dA b k1,dG b k1 x1⟩
  else if v=182 then ⟨⟨26,8,db u rr,0,cY u mm,ez b (dR b k1),0,0⟩,dA b (dR b k1),dG b (dR b k1) (jL b k1 x1)⟩
  else if v=183 then ⟨⟨26,16,db u rr,0,cY u mm,ez b (dR b k1),0,0⟩,dA b (dR b k1),dG b (dR b k1) (jL b k1 x1)⟩
  else ⟨⟨-1,W,0,0,0,0,0,0⟩,k1,x1⟩
def sx (b:List Int) (n:Int) (W mm:Int) (k:Nat) (bad:Bool):NI:=
  if 112≤n∧n<128 then ⟨⟨29,8,0,0,0,0,uk b k,abz.i8.wrap (abz.i64.wrap (n - 112))⟩,aM b k,cm b k bad⟩
  else if 184≤n∧n<192 then ⟨⟨1,W,abz.i8.wrap (abz.i8.wrap (abz.i64.wrap (n - 184))+abz.i8.wrap (8*mm)),0,0,0,ez b k,0⟩,dA b k,dG b k bad⟩
  else ⟨⟨-1,W,0,0,0,0,0,0⟩,k,bad⟩
def ma (b:List Int) (n o W ab:Int) (k:Nat) (bad:Bool):NI:=
  if n=129∨o=15 then ⟨⟨o,W,ab,0,0,0,ez b k,0⟩,dA b k,dG b k bad⟩
  else if n=193 then ⟨⟨o,W,ab,0,0,0,aK b k,0⟩,aM b k,cm b k bad⟩
  else ⟨⟨o,W,ab,0,0,0,0,0⟩,k,bad⟩
def bK (b:List Int) (n:Int) (half:Bool) (W rr mm:Int) (k:Nat) (bad:Bool):NI:=
  let v:=aK b k
  let k1:=aM b k
  if n=137 then
    (if k<b.length∧v<192 then ⟨⟨27,if half then 16 else W,0,db v rr,cY v mm,ez b (dR b k),0,0⟩,dA b (dR b k),dG b (dR b k) (jL b k bad)⟩
    else ⟨⟨0,W,cY v mm,db v rr,0,0,0,0⟩,k1,gi b k bad⟩)
  else if n=1∨n=9∨n=33∨n=41∨n=49∨n=57∨n=133 then ⟨⟨oW n,W,cY v mm,db v rr,0,0,0,0⟩,k1,gi b k bad⟩
  else if n=129∨n=193∨n=211∨n=247 then ma b n (jz n (db v rr%8)) W (cY v mm) k1 (gi b k bad)
  else if n=199 then ⟨⟨1,W,cY v mm,0,0,0,ez b k1,0⟩,dA b k1,dG b k1 (gi b k bad)⟩
  else if n=139 then ⟨⟨26,W,db v rr,0,cY v mm,ez b (dR b k),0,0⟩,dA b (dR b k),dG b (dR b k) (jL b k bad)⟩
  else if n=136 then ⟨⟨27,8,0,db v rr,cY v mm,ez b (dR b k),0,0⟩,dA b (dR b k),dG b (dR b k) (jL b k bad)⟩
  else if n=235 then ⟨⟨28,8,0,0,0,0,uk b k,0⟩,k1,cm b k bad⟩
  else if n=233 then ⟨⟨28,W,0,0,0,0,ez b k,0⟩,dA b k,dG b k bad⟩
  else if n=195 then ⟨⟨30,0,0,0,0,0,0,0⟩,k,bad⟩
  else if n=15 then mE b W rr mm k bad
  else sx b n W mm k bad
def k8 (b:List Int):NI:=bK b (IX b 0) (aK b 0==102) (if kn b 0 then 64 else 32) (Ke b 0) (Kg b 0) (Fb b 0) (ME b 0 false)
def Ls (b:List Int):Option XS:=
  let r:=k8 b
  if r.bad=false∧nK r.x=true∧(cR r.x).length=r.at_∧cR r.x=b.take r.at_ then some r.x else none
theorem ff {b:List Int} {k:Nat} {c:Int} {t:List Int} (h:b.drop k=c::t):k<b.length∧aK b k=c∧aM b k=k+1∧(∀x,cm b k x=x)∧b.drop (k+1)=t:=by
 have hk:k<b.length:=by
  rcases Nat.lt_or_ge k b.length with h'|h'
  ·exact h'
  ·rw [List.drop_eq_nil_of_le h'] at h;cases h
 have e:=List.drop_eq_getElem_cons hk
 rw [h] at e
 obtain ⟨e1,e2⟩:=List.cons.inj e
 refine ⟨hk,?_,?_,?_,e2.symm⟩
 ·unfold aK;rw [aaf,List.getElem?_eq_getElem hk];exact e1.symm
 ·unfold aM;rw [if_pos hk]
 ·intro x;unfold cm;rw [bF (by omega),Bool.or_false]
theorem lG {b:List Int} {k:Nat} {n:Int} {t:List Int} (n0: -2147483648≤n) (n1:n≤2147483647) (h:b.drop k=aW n++t):
  ez b k=n∧dA b k=k+4∧(∀x,dG b k x=x)∧b.drop (k+4)=t:=by
 simp only [aW,aag,aav] at h
 obtain ⟨_,v0,a0,x0,h1⟩:=ff h
 obtain ⟨_,v1,a1,x1,h2⟩:=ff h1
 obtain ⟨_,v2,a2,x2,h3⟩:=ff h2
 obtain ⟨_,v3,a3,x3,h4⟩:=ff h3
 refine ⟨?_,?_,?_,h4⟩
 ·unfold ez
  rw [a0,a1,a2,v0,v1,v2,v3,nF]
  omega
 ·unfold dA;rw [a0,a1,a2,a3]
 ·intro x;unfold dG;rw [a0,a1,a2,x0,x1,x2,x3]
theorem sw {b:List Int} {k:Nat} {r m:Int} {t:List Int} (r0:0≤r) (r1:r≤15) (m0:0≤m) (m1:m≤15) (h:b.drop k=bk r m::t):
  ¬aK b k<192∧db (aK b k) (r / 8)=r∧cY (aK b k) (m / 8)=m∧aM b k=k+1∧(∀x,gi b k x=x)∧b.drop (k+1)=t:=by
 obtain ⟨_,v0,a0,x0,h1⟩:=ff h
 have hg:=ER (m:=m) r0 m0
 have hb:0≤bk r m∧bk r m≤255:=by unfold bk;omega
 refine ⟨by rw [v0];exact hg,?_,?_,a0,?_,h1⟩
 ·rw [v0,EU hb (by omega),oQ r0 r1 m0 m1]
 ·rw [v0,ET hb (by omega),lF r0 r1 m0 m1]
 ·intro x;unfold gi;rw [x0,v0,bF hg,Bool.or_false]
theorem Cu {b:List Int} {k:Nat} {r m:Int} {t:List Int} (r0:0≤r) (r1:r≤7) (m0:0≤m) (m1:m≤15) (h:b.drop k=bk r m::t):
  db (aK b k) 0%8=r∧cY (aK b k) (m / 8)=m∧aM b k=k+1∧(∀x,gi b k x=x)∧b.drop (k+1)=t:=by
 obtain ⟨_,h1,h2,h3,h4,h5⟩:=sw r0 (by omega) m0 m1 h
 rw [show r / 8=0 by omega] at h1
 exact ⟨by rw [h1];omega,h2,h3,h4,h5⟩
theorem mD {b:List Int} {k:Nat} {r m d:Int} {t:List Int} (r0:0≤r) (r1:r≤15) (m0:0≤m) (m1:m≤15) (d0: -2147483648≤d) (d1:d≤2147483647) (h:b.drop k=bq r m d++t):
  k<b.length∧aK b k<192∧db (aK b k) (r / 8)=r∧cY (aK b k) (m / 8)=m∧ez b (dR b k)=d∧dA b (dR b k)=k+(bq r m d).length∧(∀x,dG b (dR b k) (jL b k x)=x):=by
 have hb:0≤128+8*(r%8)+m%8∧128+8*(r%8)+m%8≤255:=by omega
 have fin:k<b.length→aK b k=128+8*(r%8)+m%8→k<b.length∧aK b k<192∧db (aK b k) (r / 8)=r∧cY (aK b k) (m / 8)=m:=by
  intro hk v0
  refine ⟨hk,by omega,?_,?_⟩
  ·rw [v0,EU hb (by omega)];omega
  ·rw [v0,ET hb (by omega)];omega
 unfold bq at h
 by_cases hm:m%8=4
 ·rw [if_pos hm] at h
  simp only [aag] at h
  obtain ⟨hk,v0,a0,x0,h1⟩:=ff h
  obtain ⟨_,v1,a1,x1,h2⟩:=ff h1
  obtain ⟨f1,f2,f3,f4⟩:=lG d0 d1 h2
  obtain ⟨g1,g2,g3,g4⟩:=fin hk v0
  have hq:aK b k%8=4:=by omega
  have ek:dR b k=k+1+1:=by unfold dR;rw [if_pos hq,a0,a1]
  refine ⟨g1,g2,g3,g4,by rw [ek];exact f1,?_,?_⟩
  ·rw [ek,f2];unfold bq;rw [if_pos hm];simp [aW]
  ·intro x
   rw [ek,f3]
   simp only [jL,if_pos hq]
   rw [a0,x1,x0,v1,v0,bF (by omega),bF (by omega),bF (by decide)]
   simp
 ·rw [if_neg hm] at h
  simp only [aag] at h
  obtain ⟨hk,v0,a0,x0,h1⟩:=ff h
  obtain ⟨f1,f2,f3,f4⟩:=lG d0 d1 h1
  obtain ⟨g1,g2,g3,g4⟩:=fin hk v0
  have hq:¬aK b k%8=4:=by omega
  have ek:dR b k=k+1:=by unfold dR;rw [if_neg hq,a0]
  refine ⟨g1,g2,g3,g4,by rw [ek];exact f1,?_,?_⟩
  ·rw [ek,f2];unfold bq;rw [if_neg hm];simp [aW]
  ·intro x
   rw [ek,f3]
   simp only [jL,if_neg hq]
   rw [x0,v0,bF (by omega),bF (by omega)]
   simp
theorem J3 {b:List Int} {p:Nat} (hp:uo b 0=p) (hx:xH b 0 false=false) {wide al:Bool} {r m c:Int} {t:List Int} (r0:0≤r) (r1:r≤15) (m0:0≤m) (m1:m≤15)
  (c0:0≤c) (c1:c≤255) (hc:¬(64≤c∧c≤79)) (h:b.drop p=bl wide r m al++c::t):
  IX b 0=c∧b.drop (Fb b 0)=t∧Fb b 0=p+(bl wide r m al).length+1∧ME b 0 false=false∧kn b 0=wide∧Ke b 0=r / 8∧Kg b 0=m / 8:=by
 unfold bl at h ⊢
 by_cases hn:bP wide r m al=true
 ·rw [if_pos hn] at h ⊢
  simp only [aag,aav] at h
  obtain ⟨_,v0,a0,x0,h1⟩:=ff h
  obtain ⟨_,v1,a1,x1,h2⟩:=ff h1
  have hr:64≤cV wide r m∧cV wide r m≤79∧cV wide r m / 2%2=0∧cV wide r m / 4%2=r / 8∧cV wide r m%2=m / 8∧(cV wide r m / 8%2=1↔wide=true):=by
   unfold cV
   cases wide<;>simp<;>omega
  have q:Kf b 0=true:=by unfold Kf EZ;rw [hp,v0,b8 (by omega)]
  unfold IX Fb ME kn Ke Kg
  rw [q,hp,hx]
  simp only [if_true,Bool.true_and]
  rw [a0,v0,v1,a1,x0,x1,hr.2.2.1,hr.2.2.2.1,hr.2.2.2.2.1]
  refine ⟨rfl,h2,rfl,by simp,?_,rfl,rfl⟩
  cases wide
  ·exact bF (fun e=>by have:=hr.2.2.2.2.2.1 e;cases this)
  ·exact b8 (hr.2.2.2.2.2.2 rfl)
 ·rw [if_neg hn] at h ⊢
  simp only [aav] at h
  obtain ⟨_,v0,a0,x0,h1⟩:=ff h
  have q:Kf b 0=false:=by unfold Kf EZ;rw [hp,v0,bF (by omega)]
  simp only [bP,aax,bS,not_or,Bool.not_eq_true] at hn
  unfold IX Fb ME kn Ke Kg
  rw [q,hp,hx]
  simp only [Bool.false_eq_true,if_false,Bool.false_and]
  rw [a0,v0,x0]
  refine ⟨rfl,h1,rfl,rfl,hn.1.1.symm,by omega,by omega⟩
theorem GJ {b:List Int} {c:Int} {t:List Int} (h:b=c::t) (hc:c≠102):(aK b 0==102)=false∧uo b 0=0∧xH b 0 false=false:=by
 have v:aK b 0=c:=by rw [h];rfl
 unfold uo xH
 rw [v]
 exact ⟨by simpa using hc,by rw [if_neg hc],by rw [if_neg hc]⟩
theorem Ms {b:List Int} {t:List Int} (h:b=102::t):(aK b 0==102)=true∧uo b 0=1∧xH b 0 false=false:=by
 have v:aK b 0=102:=by rw [h];rfl
 unfold uo xH
 rw [v]
 refine ⟨rfl,?_,?_⟩
 ·rw [if_pos rfl,h];rfl
 ·rw [if_pos rfl,h];rfl
theorem gm {b:List Int} {wide al:Bool} {r m c:Int} {t:List Int} (r0:0≤r) (r1:r≤15) (m0:0≤m) (m1:m≤15) (c0:0≤c) (c1:c≤255) (hc:¬(64≤c∧c≤79)) (h2:c≠102)
  (h:b=bl wide r m al++c::t):∃k,k=(bl wide r m al).length+1∧b.drop k=t∧k8 b=bK b c false (if wide then 64 else 32) (r / 8) (m / 8) k false:=by
 have hh:(aK b 0==102)=false∧uo b 0=0∧xH b 0 false=false:=by
  cases e:b with
  |nil=>rw [e] at h;have:=congrArg aaa h;simp at this
  |cons a u=>
   refine GJ rfl ?_
   have:=Da (wide:=wide) (al:=al) (t:=t) r0 r1 m0 m1 h2
   rw [← h,e] at this
   exact this
 obtain ⟨e1,e2,e3,e4,e5,e6,e7⟩:=J3 hh.2.1 hh.2.2 r0 r1 m0 m1 c0 c1 hc (by rw [aa0];exact h)
 refine ⟨Fb b 0,by rw [e3];omega,e2,?_⟩
 unfold k8
 rw [e1,e4,e5,e6,e7,hh.1]
theorem LP {b:List Int} {wide al:Bool} {r m c:Int} {t:List Int} (r0:0≤r) (r1:r≤15) (m0:0≤m) (m1:m≤15) (c0:0≤c) (c1:c≤255) (hc:¬(64≤c∧c≤79))
  (h:b=102::(bl wide r m al++c::t)):∃k,k=(bl wide r m al).length+2∧b.drop k=t∧k8 b=bK b c true (if wide then 64 else 32) (r / 8) (m / 8) k false:=by
 have hh:=Ms h
 obtain ⟨e1,e2,e3,e4,e5,e6,e7⟩:=J3 hh.2.1 hh.2.2 r0 r1 m0 m1 c0 c1 hc (by rw [h];rfl)
 refine ⟨Fb b 0,by rw [e3];omega,e2,?_⟩
 unfold k8
 rw [e1,e4,e5,e6,e7,hh.1]
theorem lk {b:List Int} {c:Int} {t:List Int} (c0:0≤c) (c1:c≤255) (hc:¬(64≤c∧c≤79)) (h2:c≠102) (h:b=c::t):b.drop 1=t∧k8 b=bK b c false 32 0 0 1 false:=by
 obtain ⟨k,hk,h3,h4⟩:=gm (b:=b) (wide:=false) (al:=false) (r:=0) (m:=0) (c:=c) (t:=t) (by decide) (by decide) (by decide) (by decide) c0 c1 hc h2 (by rw [h];rfl)
 obtain rfl:k=1:=by rw [hk];rfl
 exact ⟨h3,h4⟩
def P0:List LK:= [.int .u8]
def Ps (ds:List D):D:=ds.headD .undef
theorem Bs (ds:List D) (h:pb P0 ds):(Ps ds).cells=some ds:=by
 simp only [P0,pb] at h
 obtain ⟨n,r,rfl,_,rfl⟩:=h
 rfl
theorem Ee:∀(xs:List (List D)),(∀ds∈xs,pb P0 ds)→∃l:List Int,xs.map Ps=bD l∧dr l∧l.length=xs.length
 | [],_=>⟨[],rfl,Sa,rfl⟩
 |ds::r,h=>by
  obtain ⟨l,e,ho,hl⟩:=Ee r (fun d hd=>h d (List.mem_cons_of_mem _ hd))
  have h1:=h ds (List.mem_cons_self ..)
  simp only [P0,pb] at h1
  obtain ⟨n,r',rfl,hn,rfl⟩:=h1
  refine ⟨n::l,by rw [List.map_cons,e];rfl,fH.2 ⟨?_,ho⟩,by simp [hl]⟩
  simp [abz.has,abz.min,abz.max,abz.signed,abz.bits] at hn
  omega
theorem yG (a:List Int) (n:Nat):bD (a.take n)=(bD a).take n:=by simp [bD,List.map_take]
theorem GI {x:XS} (h:nK x=true) (t:List Int):im (cR x++t)=some x:=by
 have hd:ju (cR x++t)=x:=Bn h t
 unfold im
 rw [hd,if_pos]
 unfold iZ
 rw [h,Bool.true_and,abo]
 exact List.prefix_append _ _
theorem uL {b:List Int} {x:XS} (h:im b=some x):nK x=true∧cR x<+:b:=by
 unfold im at h
 split at h
 ·rename_i hf
  cases h
  unfold iZ at hf
  rw [aae,abo] at hf
  exact hf
 ·cases h
theorem m6 (w:Bool) (r m:Int) (al:Bool):(bl w r m al).length≤1:=by unfold bl;split<;>simp
theorem Ft (r b d:Int):(bq r b d).length=5∨(bq r b d).length=6:=by unfold bq aW;split<;>simp
theorem IC (x:XS):1≤(cR x).length∧(cR x).length≤11:=by
 unfold cR aD
 have r1:=m6 (decide (x.w=64)) x.ae x.ab false
 have r2:=m6 (decide (x.w=64)) x.ab x.ae false
 have r3:=m6 false 0 x.ab false
 have r4:=m6 (decide (x.w=64)) 0 x.ab false
 have r5:=m6 (decide (x.w=64)) x.ab x.aa false
 have r6:=m6 (decide (x.w=64)) x.ae x.aa (decide (x.w=8))
 have m1:=Ft x.ab x.aa x.af
 have m2:=Ft x.ae x.aa x.af
 have ite:∀ {c:Prop} [Decidable c] {a b:List Int} {m n:Nat},(m≤a.length∧a.length≤n)→(m≤b.length∧b.length≤n)→(m≤(if c then a else b).length∧(if c then a else b).length≤n):=by
  intro c _ a b m n h1 h2
  by_cases hc:c
  ·rw [if_pos hc];exact h1
  ·rw [if_neg hc];exact h2
 have sm:∀ {l:List Int} {m n:Nat},m≤l.length→l.length≤n→(m≤l.length∧l.length≤n):=fun a b=>⟨a,b⟩
 have l7:= @ite (x.w=8) _ [15,182] (if x.w=16 then [15,183] else [139]) 1 2 (by simp) (ite (by simp) (by simp))
 have l8:= @ite (x.w=16) _ [102] [] 0 1 (by simp) (by simp)
 have l9:= @ite (x.w=8) _ [136] [137] 1 1 (by simp) (by simp)
 refine ite (by simp only [aap,aaw,aaC];omega) (ite (by simp only [aap,aaw,aaC];omega) (ite (by simp only [aap,aaw,aaC];omega) (ite (ite (by simp only [aap,aaw,aaC,aW];omega) (by simp only [aap,aaw,aaC,aW];omega)) (ite (by simp only [aap,aaw,aaC];omega) (ite (by simp only [aap,aaw,aaC];omega) (ite ?_ (ite ?_ (ite (ite (by simp) (by simp [aW])) (ite (ite (by simp) (by simp [aW])) (ite (by simp) (by simp)))))))))))
 ·rw [aap,aap];omega
 ·rw [aap,aap,aap];omega
end Go.Ev
