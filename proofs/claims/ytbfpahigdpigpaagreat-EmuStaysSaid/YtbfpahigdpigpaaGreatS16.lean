import Derived.Test.YtbfpahigdpigpaaGreatS05
import Derived.Test.YtbfpahigdpigpaaGreatS07
import Derived.Test.YtbfpahigdpigpaaGreatS10
import Derived.Test.YtbfpahigdpigpaaGreatS12
import Derived.Test.YtbfpahigdpigpaaGreatS15
open List renaming replicate→Xg,length→Xj,getD_eq_getElem?_getD→Xr,length_append→Xu,map→YL
open Go.Proofs.Tryz renaming prog→Xh,f10→XT
open Int renaming toNat→Xi,not_lt→Xk,lt_add_one_of_le→Xl,fdiv→Xq,toNat_natCast→YC
open Bool renaming and_eq_true→Xp,or_eq_true→XM,not_eq_true'→X8,not_eq_false'→Yk
open Go.Value renaming int→X6
open Go renaming IntKind→YO
/- Contracts and plain laws that a statement's proof leans on (texts merged:EM5,EM6,MdEn,EM7,EM8,EM9,EM9B,EM0,EM9C,EM9D,EM10,EM11,EM12,EM13,EM14,EM15,EM17). -/
set_option linter.unusedVariables false
set_option linter.unusedSimpArgs false
set_option maxRecDepth 100000
set_option maxHeartbeats 8000000
namespace Go.Proofs.YtbfpahigdpigpaaGreat
open Go Go.Ev
theorem M5 (cc cx fr st an tr:List D) (m:aG) (left en:Int) (nc nx:Nat) (Rp:∀c∈cc,c.clean=true) (Sj:∀c∈cx,c.clean=true) (RD:∀c∈fr,c.clean=true) (QT:∀c∈st,c.clean=true) (h:left≤0):aJ Xh (db Tryz.f45 0) ⟨[],[0,1,11,12,14,15,1000004,1000007,1000008,1000009],[(1011024,3)]⟩ 16 ([D.je 15,.ptr false 12 0,cX,.ptr false 14 0]++e8 31) [au [aj 0,aB 0,.bc .tight 0 [],.bc .tight 0 [],ao left],au (iv nc nx),aA,aA,au cc,aA,aA,au cx,au fr,au st,aA,au (uC m an tr 0 en),au [.ptr false 11 0],aA,au [.ptr false 0 4],Ob.lp Lk.ready (Xg 56 cX) #[27,28] (dg XT 0) (de XT 0),Ob.cM 0 3] (Ex.exit 0) (e8 35) ([au [aj 0,aB 0,.bc .tight 0 [],.bc .tight 0 [],ao left],au (mE nc nx),aA,aA,au (YL D.bu cc),aA,aA,au (YL D.bu cx),au (YL D.bu fr),au (YL D.bu st),aA,au (uC m an tr 0 en),au [.ptr false 11 0],aA,au [.ptr false 0 4],Ob.lp Lk.ready (e8 56) #[27,28] (dg XT 0) (de XT 0),Ob.cM 0 3]):=aJ.ai mixed [tC (bJ 0 (bT (Xl h))),.cl (cc) (by first|exact eH rfl|exact Rp|exact Sj|exact RD|exact QT|exact Rr|exact Rq|exact Rs),.cl (cx) (by first|exact eH rfl|exact Rp|exact Sj|exact RD|exact QT|exact Rr|exact Rq|exact Rs),.cl (fr) (by first|exact eH rfl|exact Rp|exact Sj|exact RD|exact QT|exact Rr|exact Rq|exact Rs),.cl (st) (by first|exact eH rfl|exact Rp|exact Sj|exact RD|exact QT|exact Rr|exact Rq|exact Rs)] (by kernel_rfl)
theorem M4 (cc cx fr st an tr:List D) (m:aG) (left en:Int) (nc nx:Nat) (Rp:∀c∈cc,c.clean=true) (Sj:∀c∈cx,c.clean=true) (RD:∀c∈fr,c.clean=true) (QT:∀c∈st,c.clean=true) (Sa Sc Sd SZ SR:List D) (m2:aG) (SV:Int) (dd:List Ob) (Rr:∀c∈Sa,c.clean=true) (Rq:∀c∈Sc,c.clean=true) (Rs:∀c∈Sd,c.clean=true) (h:0<left) (hs:ak Xh 47 [.ptr false 11 0] (au [aj 0,aB 0,.bc .tight 0 [],.bc .tight 0 [],ao (YO.i64.wrap (left - 1))]::au (iv nc nx)::aA::aA::au cc::aA::aA::au cx::au fr::au st::aA::au (uC m an tr 0 en)::au [.ptr false 11 0]::aA::au [.ptr false 0 4]:: .lp .ready (Xg 56 .undef) #[27,28] (dg XT 0) (de XT 0):: .cM 0 3:: []) (ax true) (au [aj 0,aB 0,.bc .tight 0 [],.bc .tight 0 [],ao (YO.i64.wrap (left - 1))]::au (iv nc nx)::aA::aA::au cc::aA::aA::au Sa::au Sc::au Sd::aA::au (uC m2 SZ SR 0 SV)::au [.ptr false 11 0]::aA::au [.ptr false 0 4]:: .lp .ready (Xg 56 .undef) #[27,28] (dg XT 0) (de XT 0):: .cM 0 3::dd)):aJ Xh (db Tryz.f45 0) ⟨[0,1,3],[0,1,11,12,14,15,1000004,1000007,1000008,1000009],[(1011024,3)]⟩ 16 ([D.je 15,.ptr false 12 0,cX,.ptr false 14 0]++e8 31) [au [aj 0,aB 0,.bc .tight 0 [],.bc .tight 0 [],ao left],au (iv nc nx),aA,aA,au cc,aA,aA,au cx,au fr,au st,aA,au (uC m an tr 0 en),au [.ptr false 11 0],aA,au [.ptr false 0 4],Ob.lp Lk.ready (Xg 56 cX) #[27,28] (dg XT 0) (de XT 0),Ob.cM 0 3] .norm ([D.je 15,.ptr false 12 0,cX,.ptr false 14 0]++e8 31) ([au [aj 0,aB 0,.bc .tight 0 [],.bc .tight 0 [],ao (YO.i64.wrap (left - 1))],au (mE nc nx),aA,aA,au (YL D.bu cc),aA,aA,au (YL D.bu Sa),au (YL D.bu Sc),au (YL D.bu Sd),aA,au (uC m2 SZ SR 0 SV),au [.ptr false 11 0],aA,au [.ptr false 0 4],Ob.lp Lk.ready (e8 56) #[27,28] (dg XT 0) (de XT 0),Ob.cM 0 3]):=aJ.ai mixed [tC (bJ 0 (bg (by omega:¬left<1))),.aD _ _ _ _ _ (@we (au [aj 0,aB 0,.bc .tight 0 [],.bc .tight 0 [],ao left]) (au [.ptr false 11 0]) (aA) (au [.ptr false 0 4]) (Ob.lp Lk.ready (e8 56) #[27,28] (dg XT 0) (de XT 0)) (cc) (cx) (fr) (st) (an) (tr) (m) (en) (nc) (nx)),.aV [(0,au [aj 0,aB 0,.bc .tight 0 [],.bc .tight 0 [],ao left]),(1,au (mE nc nx)),(4,au cc),(7,au cx),(8,au fr),(9,au st),(11,au (uC m an tr 0 en)),(12,au [.ptr false 11 0]),(14,au [.ptr false 0 4]),(15,Ob.lp Lk.ready (e8 56) #[27,28] (dg XT 0) (de XT 0)),(16,Ob.cM 0 3)],aW,tF,.aD _ _ _ _ _ (@sr ([.ptr false 11 0]) ([au [aj 0,aB 0,.bc .tight 0 [],.bc .tight 0 [],ao (YO.i64.wrap (left - 1))],au (mE nc nx),aA,aA,au cc,aA,aA,au cx,au fr,au st,aA,au (uC m an tr 0 en),au [.ptr false 11 0],aA,au [.ptr false 0 4],Ob.lp Lk.ready (e8 56) #[27,28] (dg XT 0) (de XT 0),Ob.cM 0 3]) _ _ hs),tF,.cl (cc) (by first|exact eH rfl|exact Rp|exact Sj|exact RD|exact QT|exact Rr|exact Rq|exact Rs),.cl (Sa) (by first|exact eH rfl|exact Rp|exact Sj|exact RD|exact QT|exact Rr|exact Rq|exact Rs),.cl (Sc) (by first|exact eH rfl|exact Rp|exact Sj|exact RD|exact QT|exact Rr|exact Rq|exact Rs),.cl (Sd) (by first|exact eH rfl|exact Rp|exact Sj|exact RD|exact QT|exact Rr|exact Rq|exact Rs)] (by kernel_rfl)
theorem M3 (cc cx fr st an tr:List D) (m:aG) (left en:Int) (nc nx:Nat) (Rp:∀c∈cc,c.clean=true) (Sj:∀c∈cx,c.clean=true) (RD:∀c∈fr,c.clean=true) (QT:∀c∈st,c.clean=true) (Sa Sc Sd SZ SR:List D) (m2:aG) (SV:Int) (dd:List Ob) (Rr:∀c∈Sa,c.clean=true) (Rq:∀c∈Sc,c.clean=true) (Rs:∀c∈Sd,c.clean=true) (h:0<left) (hs:ak Xh 47 [.ptr false 11 0] (au [aj 0,aB 0,.bc .tight 0 [],.bc .tight 0 [],ao (YO.i64.wrap (left - 1))]::au (iv nc nx)::aA::aA::au cc::aA::aA::au cx::au fr::au st::aA::au (uC m an tr 0 en)::au [.ptr false 11 0]::aA::au [.ptr false 0 4]:: .lp .ready (Xg 56 .undef) #[27,28] (dg XT 0) (de XT 0):: .cM 0 3:: []) (ax true) (au [aj 0,aB 0,.bc .tight 0 [],.bc .tight 0 [],ao (YO.i64.wrap (left - 1))]::au (iv nc nx)::aA::aA::au cc::aA::aA::au Sa::au Sc::au Sd::aA::au (uC m2 SZ SR 1 SV)::au [.ptr false 11 0]::aA::au [.ptr false 0 4]:: .lp .ready (Xg 56 .undef) #[27,28] (dg XT 0) (de XT 0):: .cM 1 3::dd)):aJ Xh (db Tryz.f45 0) ⟨[0,1,3],[0,1,11,12,14,15,1000004,1000007,1000008,1000009],[(1011024,3)]⟩ 16 ([D.je 15,.ptr false 12 0,cX,.ptr false 14 0]++e8 31) [au [aj 0,aB 0,.bc .tight 0 [],.bc .tight 0 [],ao left],au (iv nc nx),aA,aA,au cc,aA,aA,au cx,au fr,au st,aA,au (uC m an tr 0 en),au [.ptr false 11 0],aA,au [.ptr false 0 4],Ob.lp Lk.ready (Xg 56 cX) #[27,28] (dg XT 0) (de XT 0),Ob.cM 0 3] .norm ([D.je 15,.ptr false 12 0,cX,.ptr false 14 0]++e8 31) ([au [aj 0,aB 0,.bc .tight 0 [],.bc .tight 0 [],ao (YO.i64.wrap (left - 1))],au (mE nc nx),aA,aA,au (YL D.bu cc),aA,aA,au (YL D.bu Sa),au (YL D.bu Sc),au (YL D.bu Sd),aA,au (uC m2 SZ SR 0 SV),au [.ptr false 11 0],aA,au [.ptr false 0 4],Ob.lp Lk.ready (e8 56) #[27,28] (dg XT 0) (de XT 0),Ob.cM 0 3]):=aJ.ai mixed [tC (bJ 0 (bg (by omega:¬left<1))),.aD _ _ _ _ _ (@we (au [aj 0,aB 0,.bc .tight 0 [],.bc .tight 0 [],ao left]) (au [.ptr false 11 0]) (aA) (au [.ptr false 0 4]) (Ob.lp Lk.ready (e8 56) #[27,28] (dg XT 0) (de XT 0)) (cc) (cx) (fr) (st) (an) (tr) (m) (en) (nc) (nx)),.aV [(0,au [aj 0,aB 0,.bc .tight 0 [],.bc .tight 0 [],ao left]),(1,au (mE nc nx)),(4,au cc),(7,au cx),(8,au fr),(9,au st),(11,au (uC m an tr 0 en)),(12,au [.ptr false 11 0]),(14,au [.ptr false 0 4]),(15,Ob.lp Lk.ready (e8 56) #[27,28] (dg XT 0) (de XT 0)),(16,Ob.cM 0 3)],aW,tF,.aD _ _ _ _ _ (@sr ([.ptr false 11 0]) ([au [aj 0,aB 0,.bc .tight 0 [],.bc .tight 0 [],ao (YO.i64.wrap (left - 1))],au (mE nc nx),aA,aA,au cc,aA,aA,au cx,au fr,au st,aA,au (uC m an tr 0 en),au [.ptr false 11 0],aA,au [.ptr false 0 4],Ob.lp Lk.ready (e8 56) #[27,28] (dg XT 0) (de XT 0),Ob.cM 0 3]) _ _ hs),tF,.cl (cc) (by first|exact eH rfl|exact Rp|exact Sj|exact RD|exact QT|exact Rr|exact Rq|exact Rs),.cl (Sa) (by first|exact eH rfl|exact Rp|exact Sj|exact RD|exact QT|exact Rr|exact Rq|exact Rs),.cl (Sc) (by first|exact eH rfl|exact Rp|exact Sj|exact RD|exact QT|exact Rr|exact Rq|exact Rs),.cl (Sd) (by first|exact eH rfl|exact Rp|exact Sj|exact RD|exact QT|exact Rr|exact Rq|exact Rs)] (by kernel_rfl)
theorem Ok (cc cx fr st an tr:List D) (m:aG) (left en:Int) (nc nx:Nat) (Rp:∀c∈cc,c.clean=true) (Sj:∀c∈cx,c.clean=true) (RD:∀c∈fr,c.clean=true) (QT:∀c∈st,c.clean=true) (Sa Sc Sd SZ SR:List D) (m2:aG) (SV:Int) (dd:List Ob) (Rr:∀c∈Sa,c.clean=true) (Rq:∀c∈Sc,c.clean=true) (Rs:∀c∈Sd,c.clean=true) (h:0<left) (hs:ak Xh 47 [.ptr false 11 0] (au [aj 0,aB 0,.bc .tight 0 [],.bc .tight 0 [],ao (YO.i64.wrap (left - 1))]::au (iv nc nx)::aA::aA::au cc::aA::aA::au cx::au fr::au st::aA::au (uC m an tr 0 en)::au [.ptr false 11 0]::aA::au [.ptr false 0 4]:: .lp .ready (Xg 56 .undef) #[27,28] (dg XT 0) (de XT 0):: .cM 0 3:: []) (ax false) (au [aj 0,aB 0,.bc .tight 0 [],.bc .tight 0 [],ao (YO.i64.wrap (left - 1))]::au (iv nc nx)::aA::aA::au cc::aA::aA::au Sa::au Sc::au Sd::aA::au (uC m2 SZ SR 0 SV)::au [.ptr false 11 0]::aA::au [.ptr false 0 4]:: .lp .ready (Xg 56 .undef) #[27,28] (dg XT 0) (de XT 0):: .cM 0 3::dd)):aJ Xh (db Tryz.f45 0) ⟨[],[0,1,11,12,14,15,1000004,1000007,1000008,1000009],[(1011024,3)]⟩ 16 ([D.je 15,.ptr false 12 0,cX,.ptr false 14 0]++e8 31) [au [aj 0,aB 0,.bc .tight 0 [],.bc .tight 0 [],ao left],au (iv nc nx),aA,aA,au cc,aA,aA,au cx,au fr,au st,aA,au (uC m an tr 0 en),au [.ptr false 11 0],aA,au [.ptr false 0 4],Ob.lp Lk.ready (Xg 56 cX) #[27,28] (dg XT 0) (de XT 0),Ob.cM 0 3] (Ex.ret) (e8 35) ([au [aj 0,aB 0,.bc .tight 0 [],.bc .tight 0 [],ao (YO.i64.wrap (left - 1))],au (mE nc nx),aA,aA,au (YL D.bu cc),aA,aA,au (YL D.bu Sa),au (YL D.bu Sc),au (YL D.bu Sd),aA,au (uC m2 SZ SR 0 SV),au [.ptr false 11 0],aA,au [.ptr false 0 4],Ob.lp Lk.ready (e8 56) #[27,28] (dg XT 0) (de XT 0),Ob.cM 0 3]):=aJ.ai mixed [tC (bJ 0 (bg (by omega:¬left<1))),.aD _ _ _ _ _ (@we (au [aj 0,aB 0,.bc .tight 0 [],.bc .tight 0 [],ao left]) (au [.ptr false 11 0]) (aA) (au [.ptr false 0 4]) (Ob.lp Lk.ready (e8 56) #[27,28] (dg XT 0) (de XT 0)) (cc) (cx) (fr) (st) (an) (tr) (m) (en) (nc) (nx)),.aV [(0,au [aj 0,aB 0,.bc .tight 0 [],.bc .tight 0 [],ao left]),(1,au (mE nc nx)),(4,au cc),(7,au cx),(8,au fr),(9,au st),(11,au (uC m an tr 0 en)),(12,au [.ptr false 11 0]),(14,au [.ptr false 0 4]),(15,Ob.lp Lk.ready (e8 56) #[27,28] (dg XT 0) (de XT 0)),(16,Ob.cM 0 3)],aW,tF,.aD _ _ _ _ _ (@sr ([.ptr false 11 0]) ([au [aj 0,aB 0,.bc .tight 0 [],.bc .tight 0 [],ao (YO.i64.wrap (left - 1))],au (mE nc nx),aA,aA,au cc,aA,aA,au cx,au fr,au st,aA,au (uC m an tr 0 en),au [.ptr false 11 0],aA,au [.ptr false 0 4],Ob.lp Lk.ready (e8 56) #[27,28] (dg XT 0) (de XT 0),Ob.cM 0 3]) _ _ hs),tT,.cl (cc) (by first|exact eH rfl|exact Rp|exact Sj|exact RD|exact QT|exact Rr|exact Rq|exact Rs),.cl (Sa) (by first|exact eH rfl|exact Rp|exact Sj|exact RD|exact QT|exact Rr|exact Rq|exact Rs),.cl (Sc) (by first|exact eH rfl|exact Rp|exact Sj|exact RD|exact QT|exact Rr|exact Rq|exact Rs),.cl (Sd) (by first|exact eH rfl|exact Rp|exact Sj|exact RD|exact QT|exact Rr|exact Rq|exact Rs)] (by kernel_rfl)
theorem F7 (m:aG) (w ab ae aa af aq QY:Int) (d0:0≤ab) (d1:ab≤15) (s0:0≤ae) (s1:ae≤15) (b0:0≤aa) (b1:aa≤15) (w0:0≤w) (w1:w≤64) (hm:a8 26 w ab ae aa af aq QY=true):aY Xh 111 ([.agg (jD m),xD 26 w ab ae aa af aq QY]) (.aQ [aB (u64 (rg m.rl aa+u64 af)),ao (w / 8),ax true]):=by
 have c0:= @bm (26) (w) (ab) (ae) (aa) (af) (aq) (QY) (by decide)
 exact (aY.ai (d:= .aQ [aB (YO.u64.wrap (rg m.rl aa+YO.u64.wrap af)),ao (YO.i64.wrap (Xq w 8)),ax true]) mixed Tryz.func111 (by kernel_rfl) [aw c0,tC (nt hm),tF,tT,tT,.dP (decide (0≤aa∧aa<(↑(16:Nat):Int))) true (by ((try simp only [dJ,bF,aU,dt,bP,cq,ck,gu,eI,bne_eq_false_iff_eq,X8,Yk,Xp,XM] at*);omega)),.get _ _ _ (@cF (m) (aa) ([ax m.fk,ax m.fc,ax m.fz,ax m.fs,ax m.fo,aB m.pc]) b0 b1)]).to (by simp only [aI,fS,D.int.injEq,ev];refine ⟨rfl,?_⟩;first|rfl|(rw [aU,P4];omega)|(rw [show YO.i64.wrap w=w by rw [aU];omega,Int.tdiv_eq_ediv_of_nonneg w0,aU];omega))
theorem F6 (m:aG) (w ab ae aa af aq QY:Int) (d0:0≤ab) (d1:ab≤15) (s0:0≤ae) (s1:ae≤15) (b0:0≤aa) (b1:aa≤15) (w0:0≤w) (w1:w≤64) (hm:a8 27 w ab ae aa af aq QY=true):aY Xh 111 ([.agg (jD m),xD 27 w ab ae aa af aq QY]) (.aQ [aB (u64 (rg m.rl aa+u64 af)),ao (w / 8),ax true]):=by
 have c0:= @bm (27) (w) (ab) (ae) (aa) (af) (aq) (QY) (by decide)
 exact (aY.ai (d:= .aQ [aB (YO.u64.wrap (rg m.rl aa+YO.u64.wrap af)),ao (YO.i64.wrap (Xq w 8)),ax true]) mixed Tryz.func111 (by kernel_rfl) [aw c0,tC (nt hm),tF,tF,tT,.dP (decide (0≤aa∧aa<(↑(16:Nat):Int))) true (by ((try simp only [dJ,bF,aU,dt,bP,cq,ck,gu,eI,bne_eq_false_iff_eq,X8,Yk,Xp,XM] at*);omega)),.get _ _ _ (@cF (m) (aa) ([ax m.fk,ax m.fc,ax m.fz,ax m.fs,ax m.fo,aB m.pc]) b0 b1)]).to (by simp only [aI,fS,D.int.injEq,ev];refine ⟨rfl,?_⟩;first|rfl|(rw [aU,P4];omega)|(rw [show YO.i64.wrap w=w by rw [aU];omega,Int.tdiv_eq_ediv_of_nonneg w0,aU];omega))
theorem F5 (m:aG) (w ab ae aa af aq QY:Int) (d0:0≤ab) (d1:ab≤15) (s0:0≤ae) (s1:ae≤15) (b0:0≤aa) (b1:aa≤15) (hm:a8 30 w ab ae aa af aq QY=true):aY Xh 111 ([.agg (jD m),xD 30 w ab ae aa af aq QY]) (.aQ [aB m.q4,ao 8,ax true]):=by
 have c0:= @bm (30) (w) (ab) (ae) (aa) (af) (aq) (QY) (by decide)
 exact (aY.ai (d:= .aQ [aB m.q4,ao 8,ax true]) mixed Tryz.func111 (by kernel_rfl) [aw c0,tC (nt hm),tT]).to (by first|((simp only [aI,fS];repeat' (first|rfl|exact True.intro|apply And.intro));done)|(simp [aI,u64,];done))
theorem yY (m:aG) (op w ab ae aa af aq QY:Int) (ho:op≤127) (n1:(op==26)=false) (n2:(op==27)=false) (n3:(op==30)=false) (hm:a8 op w ab ae aa af aq QY=true):aY Xh 111 ([.agg (jD m),xD op w ab ae aa af aq QY]) (.aQ [aB 0,ao 0,ax false]):=by
 have c0:= @bm (op) (w) (ab) (ae) (aa) (af) (aq) (QY) ho
 exact (aY.ai (d:= .aQ [aB 0,ao 0,ax false]) mixed Tryz.func111 (by kernel_rfl) [aw c0,tC (nt hm),tC n3,tC n1,tC n2]).to (by first|((simp only [aI,fS];repeat' (first|rfl|exact True.intro|apply And.intro));done)|(simp [aI,u64,];done))
theorem FZ (m:aG) (w ab ae aa af aq QY:Int) (d0:0≤ab) (d1:ab≤15) (s0:0≤ae) (s1:ae≤15) (b0:0≤aa) (b1:aa≤15) (w0:ay w=true) (hm:a8 27 w ab ae aa af aq QY=true):aY Xh 114 ([.agg (jD m),xD 27 w ab ae aa af aq QY]) (aB (bo (rg m.rl ae) w)):=by
 have c0:= @bm (27) (w) (ab) (ae) (aa) (af) (aq) (QY) (by decide)
 have c1:= @cL (rg m.rl ae) (w)
 exact (aY.ai (d:= .int .u64 (bo (rg m.rl ae) w)) mixed Tryz.func114 (by kernel_rfl) [tT,tT,aw c0,tT,tF,tC (nt hm),.dP (decide (0≤ae∧ae<(↑(16:Nat):Int))) true (by ((try simp only [dJ,bF,aU,dt,bP,cq,ck,gu,eI,bne_eq_false_iff_eq,X8,Yk,Xp,XM] at*);omega)),.get _ _ _ (@cF (m) (ae) ([ax m.fk,ax m.fc,ax m.fz,ax m.fs,ax m.fo,aB m.pc]) s0 s1),aw c1]).to (by first|((simp only [aI,fS];repeat' (first|rfl|exact True.intro|apply And.intro));done)|(simp [aI,u64,];done))
theorem Ll (m:aG):aY Xh 144 ([.agg (jD m)]) (.aQ [ao (nr m.q0),ax (sW m.q0)]):=by
 rcases Bool.eq_false_or_eq_true (decide (aG.q0 m<16)) with h0|h0
 ·exact (aY.ai (d:= .aQ [ao (YO.i64.wrap m.q0),ax true]) mixed Tryz.func144 (by kernel_rfl) [tC (bO 16 h0)]).to (by first|exact Ix h0|exact Iy h0)
 ·exact (aY.ai (d:= .aQ [ao 0,ax false]) mixed Tryz.func144 (by kernel_rfl) [tC (bO 16 h0)]).to (by first|exact Ix h0|exact Iy h0)
theorem IV (num:Int) (h0:0≤num) (h1:num≤15):aY Xh 162 ([ao num]) (ao (Int.tmod num 6)):=(aY.ai (d:= .int .i64 (Int.tmod num 6)) mixed Tryz.func162 (by kernel_rfl) ([aW]++Xg 3 (tC (eT (bO 0 (bg (Xk.2 h0)))))++ [tC (bO 0 (bg (Xk.2 h0))),tC (nt (eB 15 (bT (Xl h1))))])).to (by simp [aI,cT])
theorem yC (num:Int) (h0:num<0):aY Xh 162 ([ao num]) (ao 0):=(aY.ai (d:= .int .i64 0) mixed Tryz.func162 (by kernel_rfl) ([aW]++Xg 3 (tC (eT (bO 0 (bT h0))))++ [tC (bO 0 (bT h0)),tT])).to (by simp [aI,cT])
theorem yD (num:Int) (h0:15<num):aY Xh 162 ([ao num]) (ao 0):=(aY.ai (d:= .int .i64 0) mixed Tryz.func162 (by kernel_rfl) ([aW]++Xg 3 (tC (eT (bO 0 (lR 0 (bg (by omega:¬num<16))))))++ [tC (bO 0 (lR 0 (bg (by omega:¬num<16)))),tC (nt (eB 15 (bg (by omega:¬num<16))))])).to (by simp [aI,cT])
theorem Bq (m:aG) (v:Int) (hn:aY Xh 144 [.agg (jD m)] (.aQ [ao v,ax true])) (ha:aY Xh 162 [ao v] (ao 0)):aY Xh 145 ([.agg (jD m)]) (.bc .tight 0 []):=(aY.ai (d:= .bc .tight 0 []) mixed Tryz.func145 (by kernel_rfl) [aw hn,tF,aw ha,tT,.go 64,tF]).to (by simp [aI,cT])
theorem Bp (m:aG) (v:Int) (hn:aY Xh 144 [.agg (jD m)] (.aQ [ao v,ax true])) (ha:aY Xh 162 [ao v] (ao 1)):aY Xh 145 ([.agg (jD m)]) (.bc (.fresh 1) 1 [aB m.q7]):=(aY.ai (d:= .bc (.fresh 1) 1 [aB m.q7]) mixed Tryz.func145 (by kernel_rfl) [aw hn,tF,aw ha,tT,.go 64,tT,tT,tT,.len (1) (2147483648) (by first|decide|omega|(simp;omega)),tF]).to (by simp [aI,cT])
theorem Bo (m:aG) (v:Int) (hn:aY Xh 144 [.agg (jD m)] (.aQ [ao v,ax true])) (ha:aY Xh 162 [ao v] (ao 2)):aY Xh 145 ([.agg (jD m)]) (.bc (.fresh 1) 1 [aB m.q7,aB m.q6]):=(aY.ai (d:= .bc (.fresh 1) 1 [aB m.q7,aB m.q6]) mixed Tryz.func145 (by kernel_rfl) ([aw hn,tF,aw ha,tT,.go 64,tT,tT,tT,.len (1) (2147483648) (by first|decide|omega|(simp;omega)),tT,tT,tT]++ [.len (2) (2147483648) (by first|decide|omega|(simp;omega)),tF])).to (by simp [aI,cT])
theorem Bn (m:aG) (v:Int) (hn:aY Xh 144 [.agg (jD m)] (.aQ [ao v,ax true])) (ha:aY Xh 162 [ao v] (ao 3)):aY Xh 145 ([.agg (jD m)]) (.bc (.fresh 1) 1 [aB m.q7,aB m.q6,aB m.q2]):=(aY.ai (d:= .bc (.fresh 1) 1 [aB m.q7,aB m.q6,aB m.q2]) mixed Tryz.func145 (by kernel_rfl) ([aw hn,tF,aw ha,tT,.go 64,tT,tT,tT,.len (1) (2147483648) (by first|decide|omega|(simp;omega)),tT,tT,tT]++ [.len (2) (2147483648) (by first|decide|omega|(simp;omega)),tT,tT,tT,.len (3) (2147483648) (by first|decide|omega|(simp;omega)),tF])).to (by simp [aI,cT])
theorem Bm (m:aG) (v:Int) (hn:aY Xh 144 [.agg (jD m)] (.aQ [ao v,ax true])) (ha:aY Xh 162 [ao v] (ao 4)):aY Xh 145 ([.agg (jD m)]) (.bc (.fresh 1) 1 [aB m.q7,aB m.q6,aB m.q2,aB m.da]):=(aY.ai (d:= .bc (.fresh 1) 1 [aB m.q7,aB m.q6,aB m.q2,aB m.da]) mixed Tryz.func145 (by kernel_rfl) ([aw hn,tF,aw ha,tT,.go 64,tT,tT,tT,.len (1) (2147483648) (by first|decide|omega|(simp;omega)),tT,tT,tT]++ [.len (2) (2147483648) (by first|decide|omega|(simp;omega)),tT,tT,tT,.len (3) (2147483648) (by first|decide|omega|(simp;omega)),tT,tT,tT,.len (4) (2147483648) (by first|decide|omega|(simp;omega)),tF])).to (by simp [aI,cT])
theorem Bl (m:aG) (v:Int) (hn:aY Xh 144 [.agg (jD m)] (.aQ [ao v,ax true])) (ha:aY Xh 162 [ao v] (ao 5)):aY Xh 145 ([.agg (jD m)]) (.bc (.fresh 1) 1 [aB m.q7,aB m.q6,aB m.q2,aB m.da,aB m.q8]):=(aY.ai (d:= .bc (.fresh 1) 1 [aB m.q7,aB m.q6,aB m.q2,aB m.da,aB m.q8]) mixed Tryz.func145 (by kernel_rfl) ([aw hn,tF,aw ha,tT,.go 64,tT,tT,tT,.len (1) (2147483648) (by first|decide|omega|(simp;omega)),tT,tT,tT]++ [.len (2) (2147483648) (by first|decide|omega|(simp;omega)),tT,tT,tT,.len (3) (2147483648) (by first|decide|omega|(simp;omega)),tT,tT,tT,.len (4) (2147483648) (by first|decide|omega|(simp;omega)),tT,tT]++ [tT,.len (5) (2147483648) (by first|decide|omega|(simp;omega)),tF])).to (by simp [aI,cT])
end Go.Proofs.YtbfpahigdpigpaaGreat
namespace Go.Ev
open Go
structure sH where
  num:Int
  args:List Int
  QB:Int
def sH.d (e:sH):D:= .agg [ao e.num,aZ 1 (wD e.args),aB e.QB]
def fi (l:List sH):List D:=l.map sH.d
structure kP where
  m:aG
  cx:List Int
  fr:List Int
  st:List Int
  an:List Int
  tr:List sH
  en:Int
def sY (aa:Int) (len:Nat) (a n:Int):Bool:=decide (aa≤a∧YO.u64.wrap (a - aa)≤(len:Int)∧n≤(len:Int) - YO.u64.wrap (a - aa))
def lP (aa a:Int):Nat:=(YO.u64.wrap (a - aa)).toNat
theorem Fi {aa a n:Int} {len:Nat} (h:sY aa len a n=true):aa≤a∧YO.u64.wrap (a - aa)≤(len:Int)∧n≤(len:Int) - YO.u64.wrap (a - aa):=of_decide_eq_true h
theorem fE {aa a n:Int} {len:Nat} (h:sY aa len a n=false):a<aa∨(len:Int)<YO.u64.wrap (a - aa)∨(len:Int) - YO.u64.wrap (a - aa)<n:=by
 have:=of_decide_eq_false h
 omega
theorem of_le {aa a n:Int} {len:Nat} (h:sY aa len a n=true) (hn:0≤n):lP aa a+n.toNat≤len:=by
 have:=Fi h
 have h0:0≤YO.u64.wrap (a - aa):=by rw [dt];omega
 unfold lP
 omega
def tq (l:List Int) (k n:Nat):Int:=xo ((l.drop k).take n)
def LJ (l:List Int) (k:Nat) (w:Int):Nat→List Int
  |0=>l
  |n+1=>(LJ l k w n).set (k+n*1) (YO.u8.wrap (w.fdiv (256^n)))
theorem qd (l:List Int) (k:Nat) (w:Int):∀n,(LJ l k w n).length=l.length
 |0=>rfl
 |n+1=>by rw [LJ,List.length_set,qd l k w n]
theorem ji (l:List Int) (k:Nat) (w:Int):∀n,Nz (bD l) k w n=bD (LJ l k w n)
 |0=>rfl
 |n+1=>by
  rw [Nz,ji l k w n,LJ]
  simp [bD,List.map_set]
theorem cZ {l:List Int} {k:Nat} (j:Nat) (h:k+j<l.length):(bD l)[k+j*1]? =some (av (l.getD (k+j) 0)):=by
 rw [Nat.mul_one]
 simp [bD,h,Xr]
theorem e9:∀(n k:Nat) (l:List Int),k+n≤l.length→(l.drop k).take n=(List.range n).map fun j=>l.getD (k+j) 0
 |0,k,l,_=>by simp
 |n+1,k,l,h=>by
  rw [List.range_succ,List.map_append,← e9 n k l (by omega),List.take_add_one]
  have:(l.drop k)[n]? =some (l.getD (k+n) 0):=by
   rw [List.getElem?_drop,Xr,List.getElem?_eq_getElem (by omega)]
   rfl
  rw [this]
  rfl
def tK (cb cx fr st:List Int) (a n:Int):Option Int:=
  if sY 1048576 cb.length a n=true then some (tq cb (lP 1048576 a) n.toNat)
  else if sY 2097152 cx.length a n=true then some (tq cx (lP 2097152 a) n.toNat)
  else if sY 3145728 64 a n=true then some (tq fr (lP 3145728 a) n.toNat)
  else if sY 4194304 264 a n=true then some (tq st (lP 4194304 a) n.toNat)
  else none
def oT (cx fr st:List Int) (a n w:Int):Option (List Int×List Int×List Int):=
  if sY 2097152 cx.length a n=true then some (LJ cx (lP 2097152 a) w n.toNat,fr,st)
  else if sY 3145728 64 a n=true then some (cx,LJ fr (lP 3145728 a) w n.toNat,st)
  else if sY 4194304 264 a n=true then some (cx,fr,LJ st (lP 4194304 a) w n.toNat)
  else none
theorem zr {cx fr st:List Int} {a n w:Int} {r:List Int×List Int×List Int} (h:oT cx fr st a n w=some r):r.1.length=cx.length∧r.2.1.length=fr.length∧r.2.2.length=st.length:=by
 unfold oT at h
 split at h
 ·cases h;exact ⟨qd _ _ _ _,rfl,rfl⟩
 split at h
 ·cases h;exact ⟨rfl,qd _ _ _ _,rfl⟩
 split at h
 ·cases h;exact ⟨rfl,rfl,qd _ _ _ _⟩
 ·cases h
def tf (v:Int):Nat:=if 0≤v∧v≤15 then v.toNat%6 else 0
theorem LC (v:Int):tf v≤5:=by unfold tf;split<;>omega
def zl (m:aG) (n:Nat):List Int:= [m.q7,m.q6,m.q2,m.da,m.q8].take n
def cO (cb:List Int) (e:kP):kP×Bool:=
  if sY 1048576 cb.length e.m.pc 1=true then
    match lN (cb.drop (lP 1048576 e.m.pc)) with
    |none=>({ e with en:=3 },false)
    |some x=>
      if x.op=31 then
        if sW e.m.q0=true then
          match e.an with
          | []=>({ e with en:=2 },false)
          |a::r=>({ e with m:=(hH e.m x a).1,an:=r,tr:=e.tr++ [⟨nr e.m.q0,zl e.m (tf (nr e.m.q0)),a⟩],en:=0 },true)
        else ({ e with en:=3 },false)
      else if x.op=27 then
        match oT e.cx e.fr e.st (u64 (rg e.m.rl x.aa+u64 x.af)) (x.w / 8) (bo (rg e.m.rl x.ae) x.w) with
        |none=>({ e with en:=3 },false)
        |some r=>({ e with m:=(hH e.m x 0).1,cx:=r.1,fr:=r.2.1,st:=r.2.2,en:=0 },true)
      else if x.op=26 then
        match tK cb e.cx e.fr e.st (u64 (rg e.m.rl x.aa+u64 x.af)) (x.w / 8) with
        |none=>({ e with en:=3 },false)
        |some v=>({ e with m:=(hH e.m x v).1,en:=0 },true)
      else if x.op=30 then
        match tK cb e.cx e.fr e.st e.m.q4 8 with
        |none=>({ e with en:=3 },false)
        |some v=>if v=0 then ({ e with m:=(hH e.m x v).1,en:=1 },false) else ({ e with m:=(hH e.m x v).1,en:=0 },true)
      else if (hH e.m x 0).2=0 then ({ e with m:=(hH e.m x 0).1,en:=0 },true)
      else ({ e with en:=3 },false)
  else ({ e with en:=3 },false)
structure OP (e e2:kP):Prop where
  cx:e2.cx.length=e.cx.length
  fr:e2.fr.length=e.fr.length
  st:e2.st.length=e.st.length
  tr:∃t,e2.tr=e.tr++t∧t.length≤1
theorem uV (cb:List Int) (e:kP):OP e (cO cb e).1:=by
 have z:∀e2:kP,e2.cx=e.cx→e2.fr=e.fr→e2.st=e.st→e2.tr=e.tr→OP e e2:=fun e2 h1 h2 h3 h4=>⟨by rw [h1],by rw [h2],by rw [h3],[],by rw [h4,List.append_nil],by simp⟩
 unfold cO
 split
 ·split
  ·exact z _ rfl rfl rfl rfl
  ·split
   ·split
    ·split
     ·exact z _ rfl rfl rfl rfl
     ·exact ⟨rfl,rfl,rfl,_,rfl,Nat.le_refl _⟩
    ·exact z _ rfl rfl rfl rfl
   ·split
    ·split
     ·exact z _ rfl rfl rfl rfl
     ·rename_i r hr
      obtain ⟨h1,h2,h3⟩:=zr hr
      exact ⟨h1,h2,h3,[],by rw [List.append_nil],by simp⟩
    ·split
     ·split<;>exact z _ rfl rfl rfl rfl
     ·split
      ·split
       ·exact z _ rfl rfl rfl rfl
       ·split<;>exact z _ rfl rfl rfl rfl
      ·split<;>exact z _ rfl rfl rfl rfl
 ·exact z _ rfl rfl rfl rfl
theorem Ce (cb:List Int) (e:kP):((cO cb e).2=true→(cO cb e).1.en=0)∧((cO cb e).2=false→(cO cb e).1.en≠0):=by
 unfold cO
 repeat' split
 all_goals (constructor<;>intro h<;>first|rfl|(cases h;done)|decide|(show (3:Int)≠0;decide)|(show (2:Int)≠0;decide)|(show (1:Int)≠0;decide))
def gZ (cb:List Int):Nat→kP→kP×Nat
  |0,e=>(e,0)
  |f+1,e=>match cO cb e with
    |(e2,true)=>gZ cb f e2
    |(e2,false)=>(e2,f)
theorem qf (cb:List Int):∀(f:Nat) (e:kP),(gZ cb f e).1.cx.length=e.cx.length∧(gZ cb f e).1.tr.length≤e.tr.length+f
 |0,e=>⟨rfl,Nat.le_refl _⟩
 |f+1,e=>by
  have ho:=uV cb e
  obtain ⟨t,ht,hl⟩:=ho.tr
  rw [gZ]
  cases hs:cO cb e with
  |mk e2 b=>
   rw [hs] at ho ht
   cases b with
   |true=>
    obtain ⟨h1,h2⟩:=qf cb f e2
    refine ⟨h1.trans ho.cx,?_⟩
    have:e2.tr.length≤e.tr.length+1:=by rw [ht,Xu];omega
    simp only [];omega
   |false=>
    refine ⟨ho.cx,?_⟩
    have:e2.tr.length≤e.tr.length+1:=by rw [ht,Xu];omega
    simp only [];omega
end Go.Ev
namespace Go.Proofs.YtbfpahigdpigpaaGreat
open Go Go.Ev
section
variable (o0 bl bk bj bh x0 x1 x2 x3 x4 x5:Ob) (cb cx fr st:List Int) (u:List D) (v:Nat)
abbrev rS:List Ob:= [o0,au (iv cb.length cx.length),aA,aA,au (bD cb),aA,aA,au (bD cx),au (bD fr),au (bD st),aA,au u,bl,bk,bj,bh,.cM v 3,x0,x1,x2,x3,x4]
abbrev wS (nc nx:Nat):List Ob:= [o0,au (iv nc nx),aA,aA,au (bD cb),aA,aA,au (bD cx),au (bD fr),au (bD st),aA,au u,bl,bk,bj,bh,.cM v 3,x0,x1,x2,x3,x4,x5]
theorem yA (hc:cb.length≤16384) (hx:cx.length≤256) (hf:fr.length=64) (hs:st.length=264) (a n:Int) (hn:n=1∨n=2∨n=4∨n=8):
  ak Xh 115 [.ptr false 1 0,aB a,ao n] (rS o0 bl bk bj bh x0 x1 x2 x3 x4 cb cx fr st u v) (match tK cb cx fr st a n with|some z=> .aQ [aB z,ao 0]|none=> .aQ [aB 0,ao 20]) (rS o0 bl bk bj bh x0 x1 x2 x3 x4 cb cx fr st u v):=by
 unfold tK
 cases h0:sY 1048576 cb.length a n with
 |true=>
  have y:=Fi h0
  have le:=of_le h0 (by omega)
  unfold lP at le
  rw [if_pos rfl]
  rcases hn with rfl|rfl|rfl|rfl
  ·rw [tq,show (1:Int).toNat=1 from rfl,lP,e9 1 _ cb le]
   exact DZ o0 bl bk bj bh x0 x1 x2 x3 x4 (bD cb) (bD cx) (bD fr) (bD st) u cb.length cx.length v hc hx a y.1 y.2.1 y.2.2 _ (cZ 0 (by omega))
  ·rw [tq,show (2:Int).toNat=2 from rfl,lP,e9 2 _ cb le]
   exact DY o0 bl bk bj bh x0 x1 x2 x3 x4 (bD cb) (bD cx) (bD fr) (bD st) u cb.length cx.length v hc hx a y.1 y.2.1 y.2.2 _ _ (cZ 0 (by omega)) (cZ 1 (by omega))
  ·rw [tq,show (4:Int).toNat=4 from rfl,lP,e9 4 _ cb le]
   exact DX o0 bl bk bj bh x0 x1 x2 x3 x4 (bD cb) (bD cx) (bD fr) (bD st) u cb.length cx.length v hc hx a y.1 y.2.1 y.2.2 _ _ _ _ (cZ 0 (by omega)) (cZ 1 (by omega)) (cZ 2 (by omega)) (cZ 3 (by omega))
  ·rw [tq,show (8:Int).toNat=8 from rfl,lP,e9 8 _ cb le]
   exact DW o0 bl bk bj bh x0 x1 x2 x3 x4 (bD cb) (bD cx) (bD fr) (bD st) u cb.length cx.length v hc hx a y.1 y.2.1 y.2.2 _ _ _ _ _ _ _ _ (cZ 0 (by omega)) (cZ 1 (by omega)) (cZ 2 (by omega)) (cZ 3 (by omega)) (cZ 4 (by omega)) (cZ 5 (by omega)) (cZ 6 (by omega)) (cZ 7 (by omega))
 |false=>
 rw [if_neg (by simp)]
 cases h1:sY 2097152 cx.length a n with
 |true=>
  have y:=Fi h1
  have le:=of_le h1 (by omega)
  unfold lP at le
  rw [if_pos rfl]
  rcases hn with rfl|rfl|rfl|rfl
  ·rw [tq,show (1:Int).toNat=1 from rfl,lP,e9 1 _ cx le]
   exact DV o0 bl bk bj bh x0 x1 x2 x3 x4 (bD cb) (bD cx) (bD fr) (bD st) u cb.length cx.length v hc hx a (fE h0) y.1 y.2.1 y.2.2 _ (cZ 0 (by omega))
  ·rw [tq,show (2:Int).toNat=2 from rfl,lP,e9 2 _ cx le]
   exact DU o0 bl bk bj bh x0 x1 x2 x3 x4 (bD cb) (bD cx) (bD fr) (bD st) u cb.length cx.length v hc hx a (fE h0) y.1 y.2.1 y.2.2 _ _ (cZ 0 (by omega)) (cZ 1 (by omega))
  ·rw [tq,show (4:Int).toNat=4 from rfl,lP,e9 4 _ cx le]
   exact DT o0 bl bk bj bh x0 x1 x2 x3 x4 (bD cb) (bD cx) (bD fr) (bD st) u cb.length cx.length v hc hx a (fE h0) y.1 y.2.1 y.2.2 _ _ _ _ (cZ 0 (by omega)) (cZ 1 (by omega)) (cZ 2 (by omega)) (cZ 3 (by omega))
  ·rw [tq,show (8:Int).toNat=8 from rfl,lP,e9 8 _ cx le]
   exact DS o0 bl bk bj bh x0 x1 x2 x3 x4 (bD cb) (bD cx) (bD fr) (bD st) u cb.length cx.length v hc hx a (fE h0) y.1 y.2.1 y.2.2 _ _ _ _ _ _ _ _ (cZ 0 (by omega)) (cZ 1 (by omega)) (cZ 2 (by omega)) (cZ 3 (by omega)) (cZ 4 (by omega)) (cZ 5 (by omega)) (cZ 6 (by omega)) (cZ 7 (by omega))
 |false=>
 rw [if_neg (by simp)]
 cases h2:sY 3145728 64 a n with
 |true=>
  have y:=Fi h2
  have le:=of_le h2 (by omega)
  unfold lP at le
  rw [← hf] at le
  rw [if_pos rfl]
  rcases hn with rfl|rfl|rfl|rfl
  ·rw [tq,show (1:Int).toNat=1 from rfl,lP,e9 1 _ fr le]
   exact DR o0 bl bk bj bh x0 x1 x2 x3 x4 (bD cb) (bD cx) (bD fr) (bD st) u cb.length cx.length v hc hx a (fE h0) (fE h1) y.1 y.2.1 y.2.2 _ (cZ 0 (by omega))
  ·rw [tq,show (2:Int).toNat=2 from rfl,lP,e9 2 _ fr le]
   exact DQ o0 bl bk bj bh x0 x1 x2 x3 x4 (bD cb) (bD cx) (bD fr) (bD st) u cb.length cx.length v hc hx a (fE h0) (fE h1) y.1 y.2.1 y.2.2 _ _ (cZ 0 (by omega)) (cZ 1 (by omega))
  ·rw [tq,show (4:Int).toNat=4 from rfl,lP,e9 4 _ fr le]
   exact DP o0 bl bk bj bh x0 x1 x2 x3 x4 (bD cb) (bD cx) (bD fr) (bD st) u cb.length cx.length v hc hx a (fE h0) (fE h1) y.1 y.2.1 y.2.2 _ _ _ _ (cZ 0 (by omega)) (cZ 1 (by omega)) (cZ 2 (by omega)) (cZ 3 (by omega))
  ·rw [tq,show (8:Int).toNat=8 from rfl,lP,e9 8 _ fr le]
   exact DN o0 bl bk bj bh x0 x1 x2 x3 x4 (bD cb) (bD cx) (bD fr) (bD st) u cb.length cx.length v hc hx a (fE h0) (fE h1) y.1 y.2.1 y.2.2 _ _ _ _ _ _ _ _ (cZ 0 (by omega)) (cZ 1 (by omega)) (cZ 2 (by omega)) (cZ 3 (by omega)) (cZ 4 (by omega)) (cZ 5 (by omega)) (cZ 6 (by omega)) (cZ 7 (by omega))
 |false=>
 rw [if_neg (by simp)]
 cases h3:sY 4194304 264 a n with
 |true=>
  have y:=Fi h3
  have le:=of_le h3 (by omega)
  unfold lP at le
  rw [← hs] at le
  rw [if_pos rfl]
  rcases hn with rfl|rfl|rfl|rfl
  ·rw [tq,show (1:Int).toNat=1 from rfl,lP,e9 1 _ st le]
   exact DM o0 bl bk bj bh x0 x1 x2 x3 x4 (bD cb) (bD cx) (bD fr) (bD st) u cb.length cx.length v hc hx a (fE h0) (fE h1) (fE h2) y.1 y.2.1 y.2.2 _ (cZ 0 (by omega))
  ·rw [tq,show (2:Int).toNat=2 from rfl,lP,e9 2 _ st le]
   exact DL o0 bl bk bj bh x0 x1 x2 x3 x4 (bD cb) (bD cx) (bD fr) (bD st) u cb.length cx.length v hc hx a (fE h0) (fE h1) (fE h2) y.1 y.2.1 y.2.2 _ _ (cZ 0 (by omega)) (cZ 1 (by omega))
  ·rw [tq,show (4:Int).toNat=4 from rfl,lP,e9 4 _ st le]
   exact DK o0 bl bk bj bh x0 x1 x2 x3 x4 (bD cb) (bD cx) (bD fr) (bD st) u cb.length cx.length v hc hx a (fE h0) (fE h1) (fE h2) y.1 y.2.1 y.2.2 _ _ _ _ (cZ 0 (by omega)) (cZ 1 (by omega)) (cZ 2 (by omega)) (cZ 3 (by omega))
  ·rw [tq,show (8:Int).toNat=8 from rfl,lP,e9 8 _ st le]
   exact DJ o0 bl bk bj bh x0 x1 x2 x3 x4 (bD cb) (bD cx) (bD fr) (bD st) u cb.length cx.length v hc hx a (fE h0) (fE h1) (fE h2) y.1 y.2.1 y.2.2 _ _ _ _ _ _ _ _ (cZ 0 (by omega)) (cZ 1 (by omega)) (cZ 2 (by omega)) (cZ 3 (by omega)) (cZ 4 (by omega)) (cZ 5 (by omega)) (cZ 6 (by omega)) (cZ 7 (by omega))
 |false=>
 rw [if_neg (by simp)]
 exact Kn o0 bl bk bj bh x0 x1 x2 x3 x4 (bD cb) (bD cx) (bD fr) (bD st) u cb.length cx.length v hc hx a n hn (by omega) (by omega) (fE h0) (fE h1) (fE h2) (fE h3)
theorem Dp (hc:cb.length≤16384) (hx:cx.length≤256) (hf:fr.length=64) (hs:st.length=264) (a n w:Int) (hn:n=1∨n=2∨n=4∨n=8):
  match oT cx fr st a n w with
  |some r=>ak Xh 113 [.ptr false 1 0,.int .u64 a,.int .i64 n,.int .u64 w] (wS o0 bl bk bj bh x0 x1 x2 x3 x4 x5 cb cx fr st u v cb.length cx.length) (.int .i64 0) (wS o0 bl bk bj bh x0 x1 x2 x3 x4 x5 cb r.1 r.2.1 r.2.2 u v cb.length cx.length)
  |none=>ak Xh 113 [.ptr false 1 0,.int .u64 a,.int .i64 n,.int .u64 w] (wS o0 bl bk bj bh x0 x1 x2 x3 x4 x5 cb cx fr st u v cb.length cx.length) (.int .i64 20) (wS o0 bl bk bj bh x0 x1 x2 x3 x4 x5 cb cx fr st u v cb.length cx.length):=by
 unfold oT
 cases h1:sY 2097152 cx.length a n with
 |true=>
  have y:=Fi h1
  have g0:a<1048576∨(cb.length:Int)<YO.u64.wrap (a - 1048576)∨(cb.length:Int) - YO.u64.wrap (a - 1048576)<n:=by
   right;left
   rw [dt] at y ⊢
   omega
  rw [if_pos rfl]
  rcases hn with rfl|rfl|rfl|rfl
  ·have:=Dj o0 bl bk bj bh x0 x1 x2 x3 x4 x5 (bD cb) (bD cx) (bD fr) (bD st) u cb.length cx.length v hc hx a w g0 y.1 y.2.1 y.2.2 (by rw [aK])
   rw [ji] at this
   exact this
  ·have:=Di o0 bl bk bj bh x0 x1 x2 x3 x4 x5 (bD cb) (bD cx) (bD fr) (bD st) u cb.length cx.length v hc hx a w g0 y.1 y.2.1 y.2.2 (by rw [aK])
   rw [ji] at this
   exact this
  ·have:=Dh o0 bl bk bj bh x0 x1 x2 x3 x4 x5 (bD cb) (bD cx) (bD fr) (bD st) u cb.length cx.length v hc hx a w g0 y.1 y.2.1 y.2.2 (by rw [aK])
   rw [ji] at this
   exact this
  ·have:=Dg o0 bl bk bj bh x0 x1 x2 x3 x4 x5 (bD cb) (bD cx) (bD fr) (bD st) u cb.length cx.length v hc hx a w g0 y.1 y.2.1 y.2.2 (by rw [aK])
   rw [ji] at this
   exact this
 |false=>
 rw [if_neg (by simp)]
 cases h2:sY 3145728 64 a n with
 |true=>
  have y:=Fi h2
  have g0:a<1048576∨(cb.length:Int)<YO.u64.wrap (a - 1048576)∨(cb.length:Int) - YO.u64.wrap (a - 1048576)<n:=by
   right;left
   rw [dt] at y ⊢
   omega
  rw [if_pos rfl]
  rcases hn with rfl|rfl|rfl|rfl
  ·have:=Df o0 bl bk bj bh x0 x1 x2 x3 x4 x5 (bD cb) (bD cx) (bD fr) (bD st) u cb.length cx.length v hc hx a w g0 (fE h1) y.1 y.2.1 y.2.2 (by rw [aK,hf])
   rw [ji] at this
   exact this
  ·have:=De o0 bl bk bj bh x0 x1 x2 x3 x4 x5 (bD cb) (bD cx) (bD fr) (bD st) u cb.length cx.length v hc hx a w g0 (fE h1) y.1 y.2.1 y.2.2 (by rw [aK,hf])
   rw [ji] at this
   exact this
  ·have:=Dd o0 bl bk bj bh x0 x1 x2 x3 x4 x5 (bD cb) (bD cx) (bD fr) (bD st) u cb.length cx.length v hc hx a w g0 (fE h1) y.1 y.2.1 y.2.2 (by rw [aK,hf])
   rw [ji] at this
   exact this
  ·have:=Dc o0 bl bk bj bh x0 x1 x2 x3 x4 x5 (bD cb) (bD cx) (bD fr) (bD st) u cb.length cx.length v hc hx a w g0 (fE h1) y.1 y.2.1 y.2.2 (by rw [aK,hf])
   rw [ji] at this
   exact this
 |false=>
 rw [if_neg (by simp)]
 cases h3:sY 4194304 264 a n with
 |true=>
  have y:=Fi h3
  have g0:a<1048576∨(cb.length:Int)<YO.u64.wrap (a - 1048576)∨(cb.length:Int) - YO.u64.wrap (a - 1048576)<n:=by
   right;left
   rw [dt] at y ⊢
   omega
  rw [if_pos rfl]
  rcases hn with rfl|rfl|rfl|rfl
  ·have:=Db o0 bl bk bj bh x0 x1 x2 x3 x4 x5 (bD cb) (bD cx) (bD fr) (bD st) u cb.length cx.length v hc hx a w g0 (fE h1) (fE h2) y.1 y.2.1 y.2.2 (by rw [aK,hs])
   rw [ji] at this
   exact this
  ·have:=Da o0 bl bk bj bh x0 x1 x2 x3 x4 x5 (bD cb) (bD cx) (bD fr) (bD st) u cb.length cx.length v hc hx a w g0 (fE h1) (fE h2) y.1 y.2.1 y.2.2 (by rw [aK,hs])
   rw [ji] at this
   exact this
  ·have:=C9 o0 bl bk bj bh x0 x1 x2 x3 x4 x5 (bD cb) (bD cx) (bD fr) (bD st) u cb.length cx.length v hc hx a w g0 (fE h1) (fE h2) y.1 y.2.1 y.2.2 (by rw [aK,hs])
   rw [ji] at this
   exact this
  ·have:=C8 o0 bl bk bj bh x0 x1 x2 x3 x4 x5 (bD cb) (bD cx) (bD fr) (bD st) u cb.length cx.length v hc hx a w g0 (fE h1) (fE h2) y.1 y.2.1 y.2.2 (by rw [aK,hs])
   rw [ji] at this
   exact this
 |false=>
 rw [if_neg (by simp)]
 cases h0:sY 1048576 cb.length a n with
 |true=>exact GG o0 bl bk bj bh x0 x1 x2 x3 x4 x5 (bD cb) (bD cx) (bD fr) (bD st) u cb.length cx.length v hc hx w a n hn (by omega) (by omega) (Fi h0).1 (Fi h0).2.1 (Fi h0).2.2 (fE h1) (fE h2) (fE h3)
 |false=>exact JY o0 bl bk bj bh x0 x1 x2 x3 x4 x5 (bD cb) (bD cx) (bD fr) (bD st) u cb.length cx.length v hc hx w a n hn (by omega) (by omega) (fE h0) (fE h1) (fE h2) (fE h3)
end
theorem KZ (v:Int):aY Xh 162 [ao v] (ao (tf v:Int)):=by
 unfold tf
 by_cases h0:0≤v
 ·by_cases h1:v≤15
  ·rw [if_pos ⟨h0,h1⟩]
   have e:Int.tmod v 6=((v.toNat%6:Nat):Int):=by rw [Int.tmod_eq_emod_of_nonneg h0];omega
   rw [← e]
   exact IV v h0 h1
  ·rw [if_neg (fun h=>h1 h.2)];exact yD v (by omega)
 ·rw [if_neg (fun h=>h0 h.1)];exact yC v (by omega)
theorem Ln (m:aG) (v:Int) (hn:aY Xh 144 [.agg (jD m)] (.aQ [ao v,ax true])):aY Xh 145 [.agg (jD m)] (aZ 1 (wD (zl m (tf v)))):=by
 have ha:=KZ v
 have h5:=LC v
 generalize tf v=n at ha h5
 have:n=0∨n=1∨n=2∨n=3∨n=4∨n=5:=by omega
 rcases this with rfl|rfl|rfl|rfl|rfl|rfl
 ·exact (Bq m v hn ha).to (by exact ⟨rfl,.inr rfl,trivial,.inl rfl⟩)
 ·exact (Bp m v hn ha).to (by exact ⟨rfl,.inl rfl,trivial,.inr rfl⟩)
 ·exact (Bo m v hn ha).to (by exact ⟨rfl,.inl rfl,trivial,.inr rfl⟩)
 ·exact (Bn m v hn ha).to (by exact ⟨rfl,.inl rfl,trivial,.inr rfl⟩)
 ·exact (Bm m v hn ha).to (by exact ⟨rfl,.inl rfl,trivial,.inr rfl⟩)
 ·exact (Bl m v hn ha).to (by exact ⟨rfl,.inl rfl,trivial,.inr rfl⟩)
abbrev eS (o0 bl bk bj bh:Ob) (cb:List Int) (nc nx:Nat) (e:kP) (v:Nat) (dd:List Ob):List Ob:=o0::au (iv nc nx)::aA::aA::au (bD cb)::aA::aA::au (bD e.cx)::au (bD e.fr)::au (bD e.st)::aA::au (uC e.m (wD e.an) (fi e.tr) v e.en)::bl::bk::bj::bh:: .cM v 3::dd
theorem Ou {m:aG} {x:XS} {ld:Int} (hm:x.may=true) (ho:x.op=26∨x.op=27∨x.op=30∨x.op=31):(hH m x ld).2=0:=by
 rw [ud hm]
 obtain ⟨op,w,ab,ae,aa,af,aq,cc⟩:=x
 rcases ho with h|h|h|h<;>(simp only at h;subst h;rfl)
theorem yx {op w ab ae aa af aq cc:Int} (h:a8 op w ab ae aa af aq cc=true) (ho:op=26∨op=27):ay w=true:=by
 have hs:=(ef h).2
 rcases ho with rfl|rfl
 ·rw [show aF 26=7 from rfl] at hs
  simp [br] at hs;exact hs.1
 ·rw [show aF 27=8 from rfl] at hs
  simp [br] at hs;exact hs.1
theorem CM {op w ab ae aa af aq cc:Int} (h:a8 op w ab ae aa af aq cc=true):op≤127:=by
 have hs:=(ef h).2
 have Tf:aF op≠0:=by
  intro e
  rw [e] at hs
  simp [br] at hs
 rcases iG Tf with rfl|rfl|rfl|rfl|rfl|rfl|rfl|rfl|rfl|rfl|rfl|rfl|rfl|rfl|rfl|rfl|rfl|rfl|rfl|rfl|rfl|rfl|rfl|rfl|rfl|rfl|rfl|rfl|rfl|rfl|rfl|rfl<;>decide
theorem Hw {b:List Int} {x:XS} (h:lN b=some x):x.may=true:=by
 unfold lN at h
 split at h
 ·rename_i hf
  cases h
  unfold kh at hf
  rw [Xp] at hf
  exact hf.1
 ·cases h
theorem bne {a b:Int} (h:a≠b):(a==b)=false:=by rw [eI];exact h
theorem IT {b:List Int} (h:du b) (k:Nat):du (b.drop k):=fun x hx=>h x (List.mem_of_mem_drop hx)
theorem xJ (o0 bl bk bj bh:Ob) (cb:List Int) (hb:du cb) (hc:cb.length≤16384) (nx:Nat) (QL:nx≤256) (e:kP) (hx:e.cx.length=nx) (hf:e.fr.length=64) (hs:e.st.length=264) (ht:e.tr.length≤100000):
  ∃(v:Nat) (dd:List Ob),(v=0∨v=1∧(cO cb e).2=true)∧ak Xh 47 [.ptr false 11 0] (eS o0 bl bk bj bh cb cb.length nx e 0 []) (ax (cO cb e).2) (eS o0 bl bk bj bh cb cb.length nx (cO cb e).1 v dd):=by
 obtain ⟨m,cx,fr,st,an,tr,en⟩:=e
 simp only at hx hf hs ht
 subst hx
 cases h0:sY 1048576 cb.length m.pc 1 with
 |false=>
  have es:cO cb ⟨m,cx,fr,st,an,tr,en⟩=(⟨m,cx,fr,st,an,tr,3⟩,false):=by unfold cO;rw [if_neg (by rw [h0];decide)]
  rw [es]
  exact ⟨0,[],.inl rfl,zB o0 bl bk bj bh (bD cb) (bD cx) (bD fr) (bD st) (wD an) (fi tr) m en cb.length cx.length hc QL (fE h0)⟩
 |true=>
  obtain ⟨p0,p1,p2⟩:=Fi h0
  have hk0:0≤YO.u64.wrap (m.pc - 1048576):=by rw [dt];omega
  have hF:jb (bD cb) (0+Xi (YO.u64.wrap (m.pc - 1048576))*1) ((cb.length - Xi (YO.u64.wrap (m.pc - 1048576)))*1) (bD (cb.drop (lP 1048576 m.pc))):=by
   refine ⟨?_,by rw [aK];omega⟩
   have:0+Xi (YO.u64.wrap (m.pc - 1048576))*1=lP 1048576 m.pc:=by unfold lP;omega
   rw [this,Nat.mul_one]
   unfold bD
   rw [← List.map_drop,List.take_of_length_le]
   rw [List.length_map,List.length_drop]
   unfold lP
   omega
  have hr:=Hx (cb.drop (lP 1048576 m.pc)) (IT hb _)
  cases hM:lN (cb.drop (lP 1048576 m.pc)) with
  |none=>
   rw [hM] at hr
   have es:cO cb ⟨m,cx,fr,st,an,tr,en⟩=(⟨m,cx,fr,st,an,tr,3⟩,false):=by unfold cO;rw [if_pos h0,hM]
   rw [es]
   exact ⟨0,[aA,aA,aA],.inl rfl,Dy o0 bl bk bj bh (bD cb) (bD cx) (bD fr) (bD st) (wD an) (fi tr) m en cb.length cx.length hc QL p0 p1 p2 _ hF (cn _) 0 0 0 0 0 0 0 0 0 30 hr (by decide)⟩
  |some x=>
   rw [hM] at hr
   have hm:=Hw hM
   have hd:=fun ld=>FI m x ld (CM hm)
   have VM:=fun ld=>Ou (m:=m) (ld:=ld) hm
   obtain ⟨op,w,ab,ae,aa,af,aq,cc⟩:=x
   have TG:a8 op w ab ae aa af aq cc=true:=hm
   have So:=CM TG
   obtain ⟨⟨d0,d1,s0,s1,b0,b1,_⟩,_⟩:=ef TG
   by_cases S5:op=31
   ·subst S5
    have ha:=yY m 31 w ab ae aa af aq cc So (by decide) (by decide) (by decide) TG
    have hn:=Ll m
    cases hq:sW m.q0 with
    |false=>
     rw [hq] at hn
     have es:cO cb ⟨m,cx,fr,st,an,tr,en⟩=(⟨m,cx,fr,st,an,tr,3⟩,false):=by
      simp [cO,h0,hM,hq]
     rw [es]
     exact ⟨0,Xg 6 .dead,.inl rfl,xP o0 bl bk bj bh (bD cb) (bD cx) (bD fr) (bD st) (wD an) (fi tr) m en cb.length cx.length hc QL p0 p1 p2 _ hF (cn _) _ _ _ _ _ _ _ _ _ hr rfl rfl rfl rfl _ _ _ ha _ hn⟩
    |true=>
     rw [hq] at hn
     cases an with
     |nil=>
      have es:cO cb ⟨m,cx,fr,st,[],tr,en⟩=(⟨m,cx,fr,st,[],tr,2⟩,false):=by
       simp [cO,h0,hM,hq]
      rw [es]
      exact ⟨0,Xg 6 .dead,.inl rfl,xO o0 bl bk bj bh (bD cb) (bD cx) (bD fr) (bD st) (fi tr) m en cb.length cx.length hc QL p0 p1 p2 _ hF (cn _) _ _ _ _ _ _ _ _ _ hr rfl rfl rfl rfl _ _ _ ha _ hn⟩
     |cons a0 ar=>
      have es:cO cb ⟨m,cx,fr,st,a0::ar,tr,en⟩=(⟨(hH m ⟨31,w,ab,ae,aa,af,aq,cc⟩ a0).1,cx,fr,st,ar,tr++ [⟨nr m.q0,zl m (tf (nr m.q0)),a0⟩],0⟩,true):=by
       simp [cO,h0,hM,hq]
      rw [es]
      have hD:=hd a0
      rw [VM a0 (.inr (.inr (.inr rfl)))] at hD
      have hg:=Ln m _ hn
      have et:fi (tr++ [⟨nr m.q0,zl m (tf (nr m.q0)),a0⟩])=fi tr++ [.agg [ao (nr m.q0),aZ 1 (wD (zl m (tf (nr m.q0)))),aB a0]]:=by simp [fi,sH.d]
      refine ⟨1,Xg 9 .dead,.inr ⟨rfl,rfl⟩,?_⟩
      have:=DA o0 bl bk bj bh (bD cb) (bD cx) (bD fr) (bD st) (wD ar) (fi tr) _ m en cb.length cx.length hc QL p0 p1 p2 _ hF (cn _) _ _ _ _ _ _ _ _ _ hr rfl rfl rfl rfl _ _ _ ha _ a0 (by simpa [fi] using ht) hn hg _ _ hD rfl
      rw [← et] at this
      exact this
   by_cases Sh:op=27
   ·subst Sh
    have hw:=yx TG (.inr rfl)
    have hwc:=gX hw
    have ha:=F6 m w ab ae aa af aq cc d0 d1 s0 s1 b0 b1 (by omega) (by omega) TG
    have QT:=FZ m w ab ae aa af aq cc d0 d1 s0 s1 b0 b1 hw TG
    have hW:=Dp o0 bl bk bj bh (.cM 0 1) .dead (au [aj 27,aj w,aj ab,aj ae,aj aa,ao af,ao aq,aj cc]) (au [aj 27,aj w,aj ab,aj ae,aj aa,ao af,ao aq,aj cc]) .dead .dead cb cx fr st (uC m (wD an) (fi tr) 0 3) 0 hc QL hf hs (u64 (rg m.rl aa+u64 af)) (w / 8) (bo (rg m.rl ae) w) (by omega)
    cases hS:oT cx fr st (u64 (rg m.rl aa+u64 af)) (w / 8) (bo (rg m.rl ae) w) with
    |none=>
     rw [hS] at hW
     have es:cO cb ⟨m,cx,fr,st,an,tr,en⟩=(⟨m,cx,fr,st,an,tr,3⟩,false):=by
      simp [cO,h0,hM,hS]
     rw [es]
     exact ⟨0,Xg 6 .dead,.inl rfl,ve o0 bl bk bj bh (bD cb) (bD cx) (bD fr) (bD st) (wD an) (fi tr) m en cb.length cx.length hc QL p0 p1 p2 _ hF (cn _) _ _ _ _ _ _ _ _ _ hr rfl rfl rfl rfl _ _ _ ha _ QT hW⟩
    |some r=>
     rw [hS] at hW
     have es:cO cb ⟨m,cx,fr,st,an,tr,en⟩=(⟨(hH m ⟨27,w,ab,ae,aa,af,aq,cc⟩ 0).1,r.1,r.2.1,r.2.2,an,tr,0⟩,true):=by
      simp [cO,h0,hM,hS]
     rw [es]
     have hD:=hd 0
     rw [VM 0 (.inr (.inl rfl))] at hD
     exact ⟨0,Xg 8 .dead,.inl rfl,zy o0 bl bk bj bh (bD cb) (bD cx) (bD fr) (bD st) (wD an) (fi tr) m en cb.length cx.length hc QL p0 p1 p2 _ hF (cn _) _ _ _ _ _ _ _ _ _ hr rfl rfl rfl rfl _ _ _ ha _ _ _ _ QT hW _ _ hD rfl⟩
   by_cases SO:op=26
   ·subst SO
    have hw:=yx TG (.inl rfl)
    have hwc:=gX hw
    have ha:=F7 m w ab ae aa af aq cc d0 d1 s0 s1 b0 b1 (by omega) (by omega) TG
    have hL:=yA o0 bl bk bj bh (.cM 0 1) .dead (au [aj 26,aj w,aj ab,aj ae,aj aa,ao af,ao aq,aj cc]) (au [aj 26,aj w,aj ab,aj ae,aj aa,ao af,ao aq,aj cc]) .dead cb cx fr st (uC m (wD an) (fi tr) 0 3) 0 hc QL hf hs (u64 (rg m.rl aa+u64 af)) (w / 8) (by omega)
    cases hS:tK cb cx fr st (u64 (rg m.rl aa+u64 af)) (w / 8) with
    |none=>
     rw [hS] at hL
     have es:cO cb ⟨m,cx,fr,st,an,tr,en⟩=(⟨m,cx,fr,st,an,tr,3⟩,false):=by
      simp [cO,h0,hM,hS]
     rw [es]
     exact ⟨0,Xg 5 .dead,.inl rfl,xN o0 bl bk bj bh (bD cb) (bD cx) (bD fr) (bD st) (wD an) (fi tr) m en cb.length cx.length hc QL p0 p1 p2 _ hF (cn _) _ _ _ _ _ _ _ _ _ hr rfl rfl rfl rfl _ _ _ ha hL⟩
    |some z=>
     rw [hS] at hL
     have es:cO cb ⟨m,cx,fr,st,an,tr,en⟩=(⟨(hH m ⟨26,w,ab,ae,aa,af,aq,cc⟩ z).1,cx,fr,st,an,tr,0⟩,true):=by
      simp [cO,h0,hM,hS]
     rw [es]
     have hD:=hd z
     rw [VM z (.inl rfl)] at hD
     exact ⟨0,Xg 7 .dead,.inl rfl,Dz o0 bl bk bj bh (bD cb) (bD cx) (bD fr) (bD st) (wD an) (fi tr) m en cb.length cx.length hc QL p0 p1 p2 _ hF (cn _) _ _ _ _ _ _ _ _ _ hr rfl rfl rfl rfl _ _ _ ha _ hL _ _ hD rfl⟩
   by_cases Tj:op=30
   ·subst Tj
    have ha:=F5 m w ab ae aa af aq cc d0 d1 s0 s1 b0 b1 TG
    have hL:=yA o0 bl bk bj bh (.cM 0 1) .dead (au [aj 30,aj w,aj ab,aj ae,aj aa,ao af,ao aq,aj cc]) (au [aj 30,aj w,aj ab,aj ae,aj aa,ao af,ao aq,aj cc]) .dead cb cx fr st (uC m (wD an) (fi tr) 0 3) 0 hc QL hf hs m.q4 8 (by omega)
    cases hS:tK cb cx fr st m.q4 8 with
    |none=>
     rw [hS] at hL
     have es:cO cb ⟨m,cx,fr,st,an,tr,en⟩=(⟨m,cx,fr,st,an,tr,3⟩,false):=by
      simp [cO,h0,hM,hS]
     rw [es]
     exact ⟨0,Xg 5 .dead,.inl rfl,zz o0 bl bk bj bh (bD cb) (bD cx) (bD fr) (bD st) (wD an) (fi tr) m en cb.length cx.length hc QL p0 p1 p2 _ hF (cn _) _ _ _ _ _ _ _ _ _ hr rfl rfl rfl rfl _ _ _ ha hL⟩
    |some z=>
     rw [hS] at hL
     have hD:=hd z
     rw [VM z (.inr (.inr (.inl rfl)))] at hD
     by_cases hz:z=0
     ·have es:cO cb ⟨m,cx,fr,st,an,tr,en⟩=(⟨(hH m ⟨30,w,ab,ae,aa,af,aq,cc⟩ z).1,cx,fr,st,an,tr,1⟩,false):=by
       simp [cO,h0,hM,hS,hz]
      rw [es]
      exact ⟨0,Xg 7 .dead,.inl rfl,Dx o0 bl bk bj bh (bD cb) (bD cx) (bD fr) (bD st) (wD an) (fi tr) m en cb.length cx.length hc QL p0 p1 p2 _ hF (cn _) _ _ _ _ _ _ _ _ _ hr rfl rfl rfl rfl _ _ _ ha _ hL _ _ hD rfl (by rw [hz];rfl)⟩
     ·have es:cO cb ⟨m,cx,fr,st,an,tr,en⟩=(⟨(hH m ⟨30,w,ab,ae,aa,af,aq,cc⟩ z).1,cx,fr,st,an,tr,0⟩,true):=by
       simp [cO,h0,hM,hS,hz]
      rw [es]
      exact ⟨0,Xg 7 .dead,.inl rfl,Hd o0 bl bk bj bh (bD cb) (bD cx) (bD fr) (bD st) (wD an) (fi tr) m en cb.length cx.length hc QL p0 p1 p2 _ hF (cn _) _ _ _ _ _ _ _ _ _ hr rfl rfl rfl rfl _ _ _ ha _ hL _ _ hD rfl (bne hz)⟩
   ·have ha:=yY m op w ab ae aa af aq cc So (bne SO) (bne Sh) (bne Tj) TG
    by_cases he:(hH m ⟨op,w,ab,ae,aa,af,aq,cc⟩ 0).2=0
    ·have es:cO cb ⟨m,cx,fr,st,an,tr,en⟩=(⟨(hH m ⟨op,w,ab,ae,aa,af,aq,cc⟩ 0).1,cx,fr,st,an,tr,0⟩,true):=by
      simp [cO,h0,hM,S5,Sh,SO,Tj,he]
     rw [es]
     exact ⟨0,Xg 7 .dead,.inl rfl,DB o0 bl bk bj bh (bD cb) (bD cx) (bD fr) (bD st) (wD an) (fi tr) m en cb.length cx.length hc QL p0 p1 p2 _ hF (cn _) _ _ _ _ _ _ _ _ _ hr (bne SO) (bne Sh) (bne Tj) (bne S5) _ _ _ ha _ _ (hd 0) he⟩
    ·have es:cO cb ⟨m,cx,fr,st,an,tr,en⟩=(⟨m,cx,fr,st,an,tr,3⟩,false):=by
      simp [cO,h0,hM,S5,Sh,SO,Tj,he]
     rw [es]
     exact ⟨0,Xg 7 .dead,.inl rfl,xQ o0 bl bk bj bh (bD cb) (bD cx) (bD fr) (bD st) (wD an) (fi tr) m en cb.length cx.length hc QL p0 p1 p2 _ hF (cn _) _ _ _ _ _ _ _ _ _ hr (bne SO) (bne Sh) (bne Tj) (bne S5) _ _ _ ha _ _ (hd 0) he⟩
abbrev O6:List D:=([.je 15,.ptr false 12 0,cX,.ptr false 14 0]++e8 31)
abbrev O5:List D:=(e8 35)
abbrev Qb (lp:Ob) (cb:List Int) (nx:Nat) (e:kP) (left:Int):List Ob:=eS (au [aj 0,aB 0,.bc .tight 0 [],.bc .tight 0 [],ao left]) (au [.ptr false 11 0]) .dead (au [.ptr false 0 4]) lp cb cb.length nx e 0 []
def GA (e:kP):Ex:=if e.en=0 then .exit 0 else .ret
theorem qR (cb:List Int) (hb:du cb) (hc:cb.length≤16384) (nx:Nat) (QL:nx≤256):∀(f:Nat) (e:kP),e.en=0→e.cx.length=nx→e.fr.length=64→e.st.length=264→e.tr.length+f≤100000→
  cA Xh (db Tryz.f45 0) 16 O6 (Qb (.lp .ready (Xg 56 .undef) #[27,28] (dg XT 0) (de XT 0)) cb nx e (f:Int)) (GA (gZ cb f e).1) O5 (Qb (.lp .ready (Xg 56 .undef) #[27,28] (dg XT 0) (de XT 0)) cb nx (gZ cb f e).1 ((gZ cb f e).2:Int))
 |0,e,h0,hx,hf,hs,ht=>by
  have:=M5 (bD cb) (bD e.cx) (bD e.fr) (bD e.st) (wD e.an) (fi e.tr) e.m ((0:Nat):Int) e.en cb.length nx (bn _) (bn _) (bn _) (bn _) (Int.le_refl _)
  rw [dH,dH,dH,dH] at this
  rw [gZ,GA,if_pos h0]
  exact cA.last this (fun h=>by cases h)
 |f+1,e,h0,hx,hf,hs,ht=>by
  have hw:YO.i64.wrap (((f+1:Nat):Int) - 1)=(f:Int):=by rw [aU];omega
  obtain ⟨v,dd,hv,hS⟩:=xJ (au [aj 0,aB 0,.bc .tight 0 [],.bc .tight 0 [],ao (f:Int)]) (au [.ptr false 11 0]) .dead (au [.ptr false 0 4]) (.lp .ready (Xg 56 .undef) #[27,28] (dg XT 0) (de XT 0)) cb hb hc nx QL e hx hf hs (by omega)
  have Ua:=Ce cb e
  have RN:=uV cb e
  rw [gZ]
  cases QT:cO cb e with
  |mk e2 b=>
   rw [QT] at hS hv Ua RN
   simp only at hS hv Ua RN
   cases b with
   |true=>
    obtain ⟨t,Vf,hl⟩:=RN.tr
    have ih:=qR cb hb hc nx QL f e2 (Ua.1 rfl) (RN.cx.trans hx) (RN.fr.trans hf) (RN.st.trans hs) (by rw [Vf,Xu];omega)
    rw [← hw] at hS
    rcases hv with rfl|⟨rfl,_⟩
    ·have:=M4 (bD cb) (bD e.cx) (bD e.fr) (bD e.st) (wD e.an) (fi e.tr) e.m ((f+1:Nat):Int) e.en cb.length nx (bn _) (bn _) (bn _) (bn _) (bD e2.cx) (bD e2.fr) (bD e2.st) (wD e2.an) (fi e2.tr) e2.m e2.en dd (bn _) (bn _) (bn _) (by omega) hS
     rw [dH,dH,dH,dH,hw] at this
     exact cA.ic this ih
    ·have:=M3 (bD cb) (bD e.cx) (bD e.fr) (bD e.st) (wD e.an) (fi e.tr) e.m ((f+1:Nat):Int) e.en cb.length nx (bn _) (bn _) (bn _) (bn _) (bD e2.cx) (bD e2.fr) (bD e2.st) (wD e2.an) (fi e2.tr) e2.m e2.en dd (bn _) (bn _) (bn _) (by omega) hS
     rw [dH,dH,dH,dH,hw] at this
     exact cA.ic this ih
   |false=>
    rw [← hw] at hS
    rcases hv with rfl|⟨_,h⟩
    ·have:=Ok (bD cb) (bD e.cx) (bD e.fr) (bD e.st) (wD e.an) (fi e.tr) e.m ((f+1:Nat):Int) e.en cb.length nx (bn _) (bn _) (bn _) (bn _) (bD e2.cx) (bD e2.fr) (bD e2.st) (wD e2.an) (fi e2.tr) e2.m e2.en dd (bn _) (bn _) (bn _) (by omega) hS
     rw [dH,dH,dH,dH,hw] at this
     simp only [GA]
     rw [if_neg (Ua.2 rfl)]
     exact cA.last this (fun h=>by cases h)
    ·cases h
def Qx:aG:=⟨0,0,0,0,4194560,0,0,0,0,0,0,0,0,0,0,0,false,false,false,false,false,1048576⟩
def mh (cx an:List Int):kP:=⟨Qx,cx,Xg 64 0,Xg 264 0,an,[],0⟩
abbrev Lm (lp:Ob) (cc cx:List D) (an:List D) (f:Int):List Ob:= [au [aj 0,aB 0,.bc .tight 0 [],.bc .tight 0 [],ao f],au (iv cc.length cx.length),aA,aA,au (cc.map D.bu),aA,aA,au (cx.map D.bu),au ((Xg 64 (fh (X6 YO.u8 0))).map D.bu),au ((Xg 264 (fh (X6 YO.u8 0))).map D.bu),aA,au [aB 0,aB 0,aB 0,aB 0,aB 4194560,aB 0,aB 0,aB 0,aB 0,aB 0,aB 0,aB 0,aB 0,aB 0,aB 0,aB 0,ax false,ax false,ax false,ax false,ax false,aB 1048576,.ptr false 1 0,aZ 1 an,.bc (.tok 16 0) 3 [],aj 0],au [.ptr false 11 0],aA,au [.ptr false 0 4],lp,.cM 0 3]
abbrev O4 (lp:Ob) (cb:List Int) (e:kP) (f:Int):List Ob:= [au [aj 0,aB 0,.bc .tight 0 [],.bc .tight 0 [],ao f],au (iv (bD cb).length (bD e.cx).length),aA,aA,au (bD cb),aA,aA,au (bD e.cx),au (bD e.fr),au (bD e.st),aA,au (uC e.m (wD e.an) (fi e.tr) 0 e.en),au [.ptr false 11 0],aA,au [.ptr false 0 4],lp,.cM 0 3]
theorem Kl (n:Nat):(Xg n (fh (X6 YO.u8 0))).map D.bu=bD (Xg n 0):=by
 rw [bD,List.map_replicate,List.map_replicate];rfl
theorem LO (cb cx an:List Int) (f:Nat) (E:kP) (lf:Nat) (hb:du cb) (lc:(bD cb).length≤16384) (lx:(bD cx).length≤256) (hf:f≤100000) (hR:gZ cb f (mh cx an)=(E,lf)):
  cB Xh 16 (.loop (db Tryz.f45 0)) O6 (Lm (.lp .ready (Xg 56 .undef) #[27,28] (dg XT 0) (de XT 0)) (bD cb) (bD cx) (wD an) (f:Int)) (GA E) O5 (O4 (.lp .ready (Xg 56 .undef) #[27,28] (dg XT 0) (de XT 0)) cb E (lf:Int)):=by
 have hl:=(qf cb f (mh cx an)).1
 have:=qR cb hb (by rw [aK] at lc;exact lc) cx.length (by rw [aK] at lx;exact lx) f (mh cx an) rfl rfl rfl rfl (by show 0+f≤100000;omega)
 rw [hR] at this hl
 have Sg:E.cx.length=cx.length:=hl
 unfold Lm O4
 rw [Kl,Kl,dH,dH,aK,aK,aK,Sg]
 exact cB.gI (by simp) this
theorem Mf (cb cx an:List Int) (f:Nat) (E:kP) (lf:Nat) (hb:du cb) (lc:(bD cb).length≤16384) (lx:(bD cx).length≤256) (hf:f≤100000) (hR:gZ cb f (mh cx an)=(E,lf)) (he:E.en=0):
  cB Xh 16 (.loop (db Tryz.f45 0)) O6 (Lm (.lp .ready (Xg 56 .undef) #[27,28] (dg XT 0) (de XT 0)) (bD cb) (bD cx) (wD an) (f:Int)) (.exit 0) O5 (O4 (.lp .ready (Xg 56 .undef) #[27,28] (dg XT 0) (de XT 0)) cb E (lf:Int)):=by
 have:=LO cb cx an f E lf hb lc lx hf hR
 rw [GA,if_pos he] at this
 exact this
theorem Hh (cb cx an:List Int) (f:Nat) (E:kP) (lf:Nat) (hb:du cb) (lc:(bD cb).length≤16384) (lx:(bD cx).length≤256) (hf:f≤100000) (hR:gZ cb f (mh cx an)=(E,lf)) (he:E.en≠0):
  cB Xh 16 (.loop (db Tryz.f45 0)) O6 (Lm (.lp .ready (Xg 56 .undef) #[27,28] (dg XT 0) (de XT 0)) (bD cb) (bD cx) (wD an) (f:Int)) .ret O5 (O4 (.lp .ready (Xg 56 .undef) #[27,28] (dg XT 0) (de XT 0)) cb E (lf:Int)):=by
 have:=LO cb cx an f E lf hb lc lx hf hR
 rw [GA,if_neg he] at this
 exact this
theorem o7 (cb cx:List Int) (an:List D) (fuel:Int) (hc:bZ (bD cb)=some (bD cb)) (hx:bZ (bD cx)=some (bD cx)) (bb:(bD cb).all isByte=true) (bx:(bD cx).all isByte=true) (lc:(bD cb).length≤16384) (lx:(bD cx).length≤256) (f0:0≤fuel) (f1:fuel≤640064):ak Xh 23 ([aZ 1 (bD cb),aZ 1 (bD cx),aZ 1 an,ao fuel]) ([au [aj 0,aB 0,.bc .tight 0 [],.bc .tight 0 [],ao 0]]) (.aQ [.ptr false 11 0,ao 0]) ([au [aj 0,aB 0,.bc .tight 0 [],.bc .tight 0 [],ao 0],au [aB 1048576,.ez 4 1 (Xi ((bD cb).length:Int)),ax false,aB 2097152,.ez 7 1 (Xi ((bD cx).length:Int)),ax true,aB 3145728,.ez 8 1 64,ax true,aB 4194304,.ez 9 1 264,ax true],aA,aA,au (bD cb),aA,aA,au (bD cx),au (Xg 64 (fh (X6 YO.u8 0))),au (Xg 264 (fh (X6 YO.u8 0))),aA,au [aB 0,aB 0,aB 0,aB 0,aB 4194560,aB 0,aB 0,aB 0,aB 0,aB 0,aB 0,aB 0,aB 0,aB 0,aB 0,aB 0,ax false,ax false,ax false,ax false,ax false,aB 1048576,.ptr false 1 0,aZ 1 an,.bc .tight 0 [],aj 0]]):=ak.ai (aV:= [0,1,4,7,8,9,11]) mixed ([aW,tC (eF (bJ 256 (by ((try simp only [eZ] at*);(try unfold cV at*);omega):(decide ((↑(Xj (bD cx)):Int)<(257:Int)))=true))),tC (eF (bJ 256 (by ((try simp only [eZ] at*);(try unfold cV at*);omega):(decide ((↑(Xj (bD cx)):Int)<(257:Int)))=true))),tC (eF (bJ 256 (by ((try simp only [eZ] at*);(try unfold cV at*);omega):(decide ((↑(Xj (bD cx)):Int)<(257:Int)))=true))),tC (bJ 256 (by ((try simp only [eZ] at*);(try unfold cV at*);omega):(decide ((↑(Xj (bD cx)):Int)<(257:Int)))=true)),tC (bJ 16384 (by ((try simp only [eZ] at*);(try unfold cV at*);omega):(decide ((↑(Xj (bD cb)):Int)<(16385:Int)))=true)),aW,.dP (decide ((0:Int)≤(↑(Xj (bD cb)):Int)∧(↑(Xj (bD cb)):Int)=(↑(Xj (bD cb)):Int)∧(↑(Xj (bD cb)):Int)≤(2147483648:Int))) true (by ((try simp only [eZ] at*);(try unfold cV at*);omega)),.raw,.Jt _ _ hc,tC (v:=true) (@hP (Xj (bD cb))),tC (v:=true) bb,.dA _ _ _ _ (@jP _ (Xi (↑(Xj (bD cb)):Int)) (fh (X6 YO.u8 (0:Int))) (bD cb) (by rfl) (by rfl)),aW,.dP (decide ((0:Int)≤(↑(Xj (bD cx)):Int)∧(↑(Xj (bD cx)):Int)=(↑(Xj (bD cx)):Int)∧(↑(Xj (bD cx)):Int)≤(2147483648:Int))) true (by ((try simp only [eZ] at*);(try unfold cV at*);omega)),.raw]++ [.Jt _ _ hx,tC (v:=true) (@hP (Xj (bD cx))),tC (v:=true) bx,.dA _ _ _ _ (@jP _ (Xi (↑(Xj (bD cx)):Int)) (fh (X6 YO.u8 (0:Int))) (bD cx) (by rfl) (by rfl)),tT,.raw,tT,tT,.raw,tT,tT,tF,tC (eF (bg (Xk.2 f0))),tC (eF (bg (Xk.2 f0))),tC (bg (Xk.2 f0)),tC (bJ 640064 (bT (Xl f1)))]++ [aW]) (by kernel_rfl)
theorem Lo (o0 o4 o8 o9 LW bl bk bj bh LV:Ob) (cx:List Int) (nc:Nat) (lE:(bD cx).length≤256) (cE:bZ (bD cx)=some (bD cx)) (bE:(bD cx).all isByte=true):ak Xh 25 ([.ptr false 1 0]) ([o0,au (iv nc (bD cx).length),aA,aA,o4,aA,aA,au (bD cx),o8,o9,aA,LW,bl,bk,bj,bh,LV]) (.ez 19 1 (Xi ((bD cx).length:Int))) ([o0,au (iv nc (bD cx).length),aA,aA,o4,aA,aA,au (bD cx),o8,o9,aA,LW,bl,bk,bj,bh,LV,aA,aA,au (bD cx)]):=(ak.ai (aV:= [0,1,2,3,4,5,6,7,8,9,10,11,12,13,14,15,16,19]) (d:= .ez 19 1 (Xi (↑(Xj (bD cx)):Int))) (s':= [o0,au [aB 1048576,.ez 4 1 nc,ax false,aB 2097152,.ez 7 1 (Xj (bD cx)),ax true,aB 3145728,.ez 8 1 64,ax true,aB 4194304,.ez 9 1 264,ax true],aA,aA,o4,aA,aA,au (bD cx),o8,o9,aA,LW,bl,bk,bj,bh,LV,aA,aA,au (bD cx)]) mixed [aW,tF,tT,.fX ([aB 1048576,.ez 4 1 nc,ax false,aB 2097152,.ez 7 1 (Xj (bD cx)),ax true,aB 3145728,.ez 8 1 64,ax true,aB 4194304,.ez 9 1 264,ax true]) 3 3 ([aB 2097152,.ez 7 1 (Xj (bD cx)),ax true]) ⟨rfl,by first|decide|simp⟩,aW,.dP (decide ((0:Int)≤(↑(Xj (bD cx)):Int)∧(↑(Xj (bD cx)):Int)=(↑(Xj (bD cx)):Int)∧(↑(Xj (bD cx)):Int)≤(2147483648:Int))) true (by ((try simp only [eZ] at*);(try unfold cV at*);omega)),.raw,.fX _ _ _ _ (@I9 (bD cx) (Xj (bD cx)*(1:Nat)) (by ((try simp only [eZ] at*);(try unfold cV at*);omega))),tC (v:=true) (@hP (Xj (bD cx))),tC (v:=true) bE,.dA _ _ _ _ (@jP _ (Xi (↑(Xj (bD cx)):Int)) (fh (X6 YO.u8 (0:Int))) (bD cx) (by rfl) (by rfl))]).cast (by rfl) (by rfl)
theorem wU (o0 o4 o8 o9 LW bl bk bj bh LV:Ob) (cx:List Int) (nc:Nat) (lE:(bD cx).length≤256) (cE:bZ (bD cx)=some (bD cx)) (bE:(bD cx).all isByte=true):
  ak Xh 25 [.ptr false 1 0] [o0,au (iv nc (bD cx).length),aA,aA,o4,aA,aA,au (bD cx),o8,o9,aA,LW,bl,bk,bj,bh,LV] (aZ 1 (bD cx)) [o0,au (iv nc (bD cx).length),aA,aA,o4,aA,aA,au (bD cx),o8,o9,aA,LW,bl,bk,bj,bh,LV,aA,aA,aA]:=
 (Lo o0 o4 o8 o9 LW bl bk bj bh LV cx nc lE cE bE).AH rfl (by rw [YC]) bE
theorem Ki (cb cx an:List Int) (f:Nat) (E:kP) (lf:Nat) (f0:0≤(f:Int)) (f1:(f:Int)≤640064) (hb:du cb) (lc:(bD cb).length≤16384) (lx:(bD cx).length≤256) (hf:f≤100000) (hR:gZ cb f (mh cx an)=(E,lf)) (hc:bZ (bD cb)=some (bD cb)) (hx:bZ (bD cx)=some (bD cx)) (bb:(bD cb).all isByte=true) (bx:(bD cx).all isByte=true) (lE:(bD E.cx).length≤256) (cE:bZ (bD E.cx)=some (bD E.cx)) (bE:(bD E.cx).all isByte=true) (mE:(Nat.beq (Xj (bD E.cx)) (Xi ((bD E.cx).length:Int))&&List.all (bD E.cx) isByte)=true) (he:E.en=0):aY Xh 10 ([aZ 1 (bD cb),aZ 1 (bD cx),aZ 1 (wD an),ao (f:Int)]) (.aQ [.agg [aj E.en,aB (0),aZ 1 (bD E.cx),aZ 3 (fi E.tr),ao (lf:Int)],ao 0]):=by
 have c0:= @Mf (cb) (cx) (an) (f) _ _ hb lc lx hf hR he
 exact (aY.ai (d:= .aQ [.agg [aj E.en,aB 0,aZ 1 (bD E.cx),aZ 3 (fi E.tr),ao (↑lf:Int)],ao 0]) mixed Tryz.func10 (by kernel_rfl) [.aD _ _ _ _ _ (@o7 (cb) (cx) (wD an) ((↑f:Int)) hc hx bb bx lc lx f0 f1),tF,aW,.JQ [],.head ⟨[0,1,3],[0,1,11,12,14,15,1000004,1000007,1000008,1000009],[(1011024,3)]⟩ _ _ _ _ _ _ _ c0,.cl (bD cb) (by first|exact eH rfl|exact bn _),.cl (bD cx) (by first|exact eH rfl|exact bn _),.cl (Xg 64 (fh (X6 YO.u8 0))) (by first|exact eH rfl|exact bn _),.cl (Xg 264 (fh (X6 YO.u8 0))) (by first|exact eH rfl|exact bn _),.aD _ _ _ _ _ (@wU (au [aj 0,aB 0,.bc .tight 0 [],.bc .tight 0 [],ao (↑lf:Int)]) (au (bD cb)) (au (bD E.fr)) (au (bD E.st)) (au [aB E.m.q0,aB E.m.q1,aB E.m.q2,aB E.m.q3,aB E.m.q4,aB E.m.q5,aB E.m.q6,aB E.m.q7,aB E.m.q8,aB E.m.q9,aB E.m.da,aB E.m.dj,aB E.m.dq,aB E.m.dp,aB E.m.dn,aB E.m.dh,ax E.m.fk,ax E.m.fc,ax E.m.fz,ax E.m.fs,ax E.m.fo,aB E.m.pc,.ptr false 1 0,aZ 1 (wD E.an),.bc (kp.tok 16 0) 3 (fi E.tr),aj E.en]) (au [.ptr false 11 0]) (aA) (au [.ptr false 0 4]) (aA) (Ob.cM 0 3) E.cx (Xj (bD cb)) lE cE bE),.aV [(0,au [aj 0,aB 0,.bc .tight 0 [],.bc .tight 0 [],ao (↑lf:Int)]),(1,au [aB 1048576,D.ez 4 1 (Xj (bD cb)),ax false,aB 2097152,D.ez 7 1 (Xj (bD E.cx)),ax true,aB 3145728,D.ez 8 1 64,ax true,aB 4194304,D.ez 9 1 264,ax true]),(4,au (bD cb)),(7,au (bD E.cx)),(8,au (bD E.fr)),(9,au (bD E.st)),(11,au [aB E.m.q0,aB E.m.q1,aB E.m.q2,aB E.m.q3,aB E.m.q4,aB E.m.q5,aB E.m.q6,aB E.m.q7,aB E.m.q8,aB E.m.q9,aB E.m.da,aB E.m.dj,aB E.m.dq,aB E.m.dp,aB E.m.dn,aB E.m.dh,ax E.m.fk,ax E.m.fc,ax E.m.fz,ax E.m.fs,ax E.m.fo,aB E.m.pc,.ptr false 1 0,aZ 1 (wD E.an),.bc (kp.tok 16 0) 3 (fi E.tr),aj E.en]),(12,au [.ptr false 11 0]),(14,au [.ptr false 0 4]),(16,Ob.cM 0 3)],tC (by simp<;>omega:(kP.en E==1)=false)]).to (by simp [aI,cT])
theorem Kh (cb cx an:List Int) (f:Nat) (E:kP) (lf:Nat) (f0:0≤(f:Int)) (f1:(f:Int)≤640064) (hb:du cb) (lc:(bD cb).length≤16384) (lx:(bD cx).length≤256) (hf:f≤100000) (hR:gZ cb f (mh cx an)=(E,lf)) (hc:bZ (bD cb)=some (bD cb)) (hx:bZ (bD cx)=some (bD cx)) (bb:(bD cb).all isByte=true) (bx:(bD cx).all isByte=true) (lE:(bD E.cx).length≤256) (cE:bZ (bD E.cx)=some (bD E.cx)) (bE:(bD E.cx).all isByte=true) (mE:(Nat.beq (Xj (bD E.cx)) (Xi ((bD E.cx).length:Int))&&List.all (bD E.cx) isByte)=true) (he:E.en≠0) (h1:E.en=1):aY Xh 10 ([aZ 1 (bD cb),aZ 1 (bD cx),aZ 1 (wD an),ao (f:Int)]) (.aQ [.agg [aj E.en,aB (E.m.q0),aZ 1 (bD E.cx),aZ 3 (fi E.tr),ao (lf:Int)],ao 0]):=by
 have c0:= @Hh (cb) (cx) (an) (f) _ _ hb lc lx hf hR he
 exact (aY.ai (d:= .aQ [.agg [aj E.en,aB E.m.q0,aZ 1 (bD E.cx),aZ 3 (fi E.tr),ao (↑lf:Int)],ao 0]) mixed Tryz.func10 (by kernel_rfl) [.aD _ _ _ _ _ (@o7 (cb) (cx) (wD an) ((↑f:Int)) hc hx bb bx lc lx f0 f1),tF,aW,.JQ [],.head ⟨[0,1,3],[0,1,11,12,14,15,1000004,1000007,1000008,1000009],[(1011024,3)]⟩ _ _ _ _ _ _ _ c0,.cl (bD cb) (by first|exact eH rfl|exact bn _),.cl (bD cx) (by first|exact eH rfl|exact bn _),.cl (Xg 64 (fh (X6 YO.u8 0))) (by first|exact eH rfl|exact bn _),.cl (Xg 264 (fh (X6 YO.u8 0))) (by first|exact eH rfl|exact bn _),.aD _ _ _ _ _ (@wU (au [aj 0,aB 0,.bc .tight 0 [],.bc .tight 0 [],ao (↑lf:Int)]) (au (bD cb)) (au (bD E.fr)) (au (bD E.st)) (au [aB E.m.q0,aB E.m.q1,aB E.m.q2,aB E.m.q3,aB E.m.q4,aB E.m.q5,aB E.m.q6,aB E.m.q7,aB E.m.q8,aB E.m.q9,aB E.m.da,aB E.m.dj,aB E.m.dq,aB E.m.dp,aB E.m.dn,aB E.m.dh,ax E.m.fk,ax E.m.fc,ax E.m.fz,ax E.m.fs,ax E.m.fo,aB E.m.pc,.ptr false 1 0,aZ 1 (wD E.an),.bc (kp.tok 16 0) 3 (fi E.tr),aj E.en]) (au [.ptr false 11 0]) (aA) (au [.ptr false 0 4]) (aA) (Ob.cM 0 3) E.cx (Xj (bD cb)) lE cE bE),.aV [(0,au [aj 0,aB 0,.bc .tight 0 [],.bc .tight 0 [],ao (↑lf:Int)]),(1,au [aB 1048576,D.ez 4 1 (Xj (bD cb)),ax false,aB 2097152,D.ez 7 1 (Xj (bD E.cx)),ax true,aB 3145728,D.ez 8 1 64,ax true,aB 4194304,D.ez 9 1 264,ax true]),(4,au (bD cb)),(7,au (bD E.cx)),(8,au (bD E.fr)),(9,au (bD E.st)),(11,au [aB E.m.q0,aB E.m.q1,aB E.m.q2,aB E.m.q3,aB E.m.q4,aB E.m.q5,aB E.m.q6,aB E.m.q7,aB E.m.q8,aB E.m.q9,aB E.m.da,aB E.m.dj,aB E.m.dq,aB E.m.dp,aB E.m.dn,aB E.m.dh,ax E.m.fk,ax E.m.fc,ax E.m.fz,ax E.m.fs,ax E.m.fo,aB E.m.pc,.ptr false 1 0,aZ 1 (wD E.an),.bc (kp.tok 16 0) 3 (fi E.tr),aj E.en]),(12,au [.ptr false 11 0]),(14,au [.ptr false 0 4]),(16,Ob.cM 0 3)],tC (cP 1 true (by omega:kP.en E=1))]).to (by simp [aI,cT])
theorem Kg (cb cx an:List Int) (f:Nat) (E:kP) (lf:Nat) (f0:0≤(f:Int)) (f1:(f:Int)≤640064) (hb:du cb) (lc:(bD cb).length≤16384) (lx:(bD cx).length≤256) (hf:f≤100000) (hR:gZ cb f (mh cx an)=(E,lf)) (hc:bZ (bD cb)=some (bD cb)) (hx:bZ (bD cx)=some (bD cx)) (bb:(bD cb).all isByte=true) (bx:(bD cx).all isByte=true) (lE:(bD E.cx).length≤256) (cE:bZ (bD E.cx)=some (bD E.cx)) (bE:(bD E.cx).all isByte=true) (mE:(Nat.beq (Xj (bD E.cx)) (Xi ((bD E.cx).length:Int))&&List.all (bD E.cx) isByte)=true) (he:E.en≠0) (h1:E.en≠1):aY Xh 10 ([aZ 1 (bD cb),aZ 1 (bD cx),aZ 1 (wD an),ao (f:Int)]) (.aQ [.agg [aj E.en,aB (0),aZ 1 (bD E.cx),aZ 3 (fi E.tr),ao (lf:Int)],ao 0]):=by
 have c0:= @Hh (cb) (cx) (an) (f) _ _ hb lc lx hf hR he
 exact (aY.ai (d:= .aQ [.agg [aj E.en,aB 0,aZ 1 (bD E.cx),aZ 3 (fi E.tr),ao (↑lf:Int)],ao 0]) mixed Tryz.func10 (by kernel_rfl) [.aD _ _ _ _ _ (@o7 (cb) (cx) (wD an) ((↑f:Int)) hc hx bb bx lc lx f0 f1),tF,aW,.JQ [],.head ⟨[0,1,3],[0,1,11,12,14,15,1000004,1000007,1000008,1000009],[(1011024,3)]⟩ _ _ _ _ _ _ _ c0,.cl (bD cb) (by first|exact eH rfl|exact bn _),.cl (bD cx) (by first|exact eH rfl|exact bn _),.cl (Xg 64 (fh (X6 YO.u8 0))) (by first|exact eH rfl|exact bn _),.cl (Xg 264 (fh (X6 YO.u8 0))) (by first|exact eH rfl|exact bn _),.aD _ _ _ _ _ (@wU (au [aj 0,aB 0,.bc .tight 0 [],.bc .tight 0 [],ao (↑lf:Int)]) (au (bD cb)) (au (bD E.fr)) (au (bD E.st)) (au [aB E.m.q0,aB E.m.q1,aB E.m.q2,aB E.m.q3,aB E.m.q4,aB E.m.q5,aB E.m.q6,aB E.m.q7,aB E.m.q8,aB E.m.q9,aB E.m.da,aB E.m.dj,aB E.m.dq,aB E.m.dp,aB E.m.dn,aB E.m.dh,ax E.m.fk,ax E.m.fc,ax E.m.fz,ax E.m.fs,ax E.m.fo,aB E.m.pc,.ptr false 1 0,aZ 1 (wD E.an),.bc (kp.tok 16 0) 3 (fi E.tr),aj E.en]) (au [.ptr false 11 0]) (aA) (au [.ptr false 0 4]) (aA) (Ob.cM 0 3) E.cx (Xj (bD cb)) lE cE bE),.aV [(0,au [aj 0,aB 0,.bc .tight 0 [],.bc .tight 0 [],ao (↑lf:Int)]),(1,au [aB 1048576,D.ez 4 1 (Xj (bD cb)),ax false,aB 2097152,D.ez 7 1 (Xj (bD E.cx)),ax true,aB 3145728,D.ez 8 1 64,ax true,aB 4194304,D.ez 9 1 264,ax true]),(4,au (bD cb)),(7,au (bD E.cx)),(8,au (bD E.fr)),(9,au (bD E.st)),(11,au [aB E.m.q0,aB E.m.q1,aB E.m.q2,aB E.m.q3,aB E.m.q4,aB E.m.q5,aB E.m.q6,aB E.m.q7,aB E.m.q8,aB E.m.q9,aB E.m.da,aB E.m.dj,aB E.m.dq,aB E.m.dp,aB E.m.dn,aB E.m.dh,ax E.m.fk,ax E.m.fc,ax E.m.fz,ax E.m.fs,ax E.m.fo,aB E.m.pc,.ptr false 1 0,aZ 1 (wD E.an),.bc (kp.tok 16 0) 3 (fi E.tr),aj E.en]),(12,au [.ptr false 11 0]),(14,au [.ptr false 0 4]),(16,Ob.cM 0 3)],tC (by simp<;>omega:(kP.en E==1)=false)]).to (by simp [aI,cT])
theorem Cl (cb cx:List Int) (an:List D) (f:Int) (hc:bZ (bD cb)=some (bD cb)) (hx:bZ (bD cx)=some (bD cx)) (bb:(bD cb).all isByte=true) (bx:(bD cx).all isByte=true) (lc:(bD cb).length≤16384) (h:256<(bD cx).length):aY Xh 10 ([aZ 1 (bD cb),aZ 1 (bD cx),aZ 1 an,ao f]) (.aQ [.agg [aj 0,aB 0,.bc .tight 0 [],.bc .tight 0 [],ao 0],ao 2]):=by
 have QO:(decide ((↑(Xj (bD cx)):Int)<257))=false:=by simp<;>omega
 exact (aY.ai (d:= .aQ [.agg [aj 0,aB 0,.bc .tight 0 [],.bc .tight 0 [],ao 0],ao 2]) mixed Tryz.func10 (by kernel_rfl) ([aW,aW]++Xg 3 (tC (eF (bJ 256 QO)))++([tC (bJ 256 QO)]++bK 9 457))).to (by simp [aI,cT])
theorem Kd (cb cx:List Int) (an:List D) (f:Int) (hc:bZ (bD cb)=some (bD cb)) (hx:bZ (bD cx)=some (bD cx)) (bb:(bD cb).all isByte=true) (bx:(bD cx).all isByte=true) (lc:(bD cb).length≤16384) (lx:(bD cx).length≤256) (h:f<0):aY Xh 10 ([aZ 1 (bD cb),aZ 1 (bD cx),aZ 1 an,ao f]) (.aQ [.agg [aj 0,aB 0,.bc .tight 0 [],.bc .tight 0 [],ao 0],ao 2]):=by
 have QO:(decide ((↑(Xj (bD cx)):Int)<257))=true:=by simp<;>omega
 exact (aY.ai (d:= .aQ [.agg [aj 0,aB 0,.bc .tight 0 [],.bc .tight 0 [],ao 0],ao 2]) mixed Tryz.func10 (by kernel_rfl) ([aW,aW]++Xg 3 (tC (eF (bJ 256 QO)))++ [tC (bJ 256 QO),tC (bJ 16384 (by simp<;>omega:(decide ((↑(Xj (bD cb)):Int)<16385))=true)),aW,.dP (decide (0≤(↑(Xj (bD cb)):Int)∧(↑(Xj (bD cb)):Int)=(↑(Xj (bD cb)):Int)∧(↑(Xj (bD cb)):Int)≤2147483648)) true (by simp<;>omega),.raw,.Jt _ _ hc,tC (v:=true) (@hP (Xj (bD cb))),tC (v:=true) bb,.dA _ _ _ _ (@jP _ (Xi (↑(Xj (bD cb)):Int)) (fh (X6 YO.u8 0)) (bD cb) (by rfl) (by rfl)),aW,.dP (decide (0≤(↑(Xj (bD cx)):Int)∧(↑(Xj (bD cx)):Int)=(↑(Xj (bD cx)):Int)∧(↑(Xj (bD cx)):Int)≤2147483648)) true (by simp<;>omega)]++ [.raw,.Jt _ _ hx,tC (v:=true) (@hP (Xj (bD cx))),tC (v:=true) bx,.dA _ _ _ _ (@jP _ (Xi (↑(Xj (bD cx)):Int)) (fh (X6 YO.u8 0)) (bD cx) (by rfl) (by rfl)),tT,.raw,tT,tT,.raw,tT,tT,tF,tC (eF (bT h)),tC (eF (bT h)),tC (bT h)]++ [tT,tT])).to (by simp [aI,cT])
theorem Kf (cb cx:List Int) (an:List D) (f:Int) (hc:bZ (bD cb)=some (bD cb)) (hx:bZ (bD cx)=some (bD cx)) (bb:(bD cb).all isByte=true) (bx:(bD cx).all isByte=true) (lc:(bD cb).length≤16384) (lx:(bD cx).length≤256) (h:640064<f):aY Xh 10 ([aZ 1 (bD cb),aZ 1 (bD cx),aZ 1 an,ao f]) (.aQ [.agg [aj 0,aB 0,.bc .tight 0 [],.bc .tight 0 [],ao 0],ao 2]):=by
 have QO:(decide ((↑(Xj (bD cx)):Int)<257))=true:=by simp<;>omega
 exact (aY.ai (d:= .aQ [.agg [aj 0,aB 0,.bc .tight 0 [],.bc .tight 0 [],ao 0],ao 2]) mixed Tryz.func10 (by kernel_rfl) ([aW,aW]++Xg 3 (tC (eF (bJ 256 QO)))++ [tC (bJ 256 QO),tC (bJ 16384 (by simp<;>omega:(decide ((↑(Xj (bD cb)):Int)<16385))=true)),aW,.dP (decide (0≤(↑(Xj (bD cb)):Int)∧(↑(Xj (bD cb)):Int)=(↑(Xj (bD cb)):Int)∧(↑(Xj (bD cb)):Int)≤2147483648)) true (by simp<;>omega),.raw,.Jt _ _ hc,tC (v:=true) (@hP (Xj (bD cb))),tC (v:=true) bb,.dA _ _ _ _ (@jP _ (Xi (↑(Xj (bD cb)):Int)) (fh (X6 YO.u8 0)) (bD cb) (by rfl) (by rfl)),aW,.dP (decide (0≤(↑(Xj (bD cx)):Int)∧(↑(Xj (bD cx)):Int)=(↑(Xj (bD cx)):Int)∧(↑(Xj (bD cx)):Int)≤2147483648)) true (by simp<;>omega)]++ [.raw,.Jt _ _ hx,tC (v:=true) (@hP (Xj (bD cx))),tC (v:=true) bx,.dA _ _ _ _ (@jP _ (Xi (↑(Xj (bD cx)):Int)) (fh (X6 YO.u8 0)) (bD cx) (by rfl) (by rfl)),tT,.raw,tT,tT,.raw,tT,tT,tF]++Xg 2 (tC (eF (lR 0 (bg (by omega:¬f<640065)))))++ [tC (lR 0 (bg (by omega:¬f<640065)))]++ [tC (bJ 640064 (bg (by omega:¬f<640065))),tT])).to (by simp [aI,cT])
def Qg (l:List sH):Prop:= ∀e∈l,e.args.length≤5
abbrev Hi (cb cx an:List Int) (f:Nat):kP×Nat:=gZ cb f (mh cx an)
def zp (e:kP):Int:=if e.en=1 then e.m.q0 else 0
abbrev MH (r:kP×Nat):D:= .aQ [.agg [aj r.1.en,aB (zp r.1),aZ 1 (bD r.1.cx),aZ 3 (fi r.1.tr),ao (r.2:Int)],ao 0]
theorem vh (cb cx an:List Int) (f:Nat) (hb:du cb) (lc:cb.length≤16384) (lx:cx.length≤256) (hf:f≤100000):
  aY Xh 10 [aZ 1 (bD cb),aZ 1 (bD cx),aZ 1 (wD an),ao (f:Int)] (MH (gZ cb f (mh cx an))):=by
 have hl:=(qf cb f (mh cx an)).1
 cases hR':gZ cb f (mh cx an) with
 |mk E lf=>
 rw [hR'] at hl
 have Sg:E.cx.length=cx.length:=hl
 have Wi:(bD cb).length≤16384:=by rw [aK];exact lc
 have WD:(bD cx).length≤256:=by rw [aK];exact lx
 have lE:(bD E.cx).length≤256:=by rw [aK,Sg];exact lx
 have mE:(Nat.beq (Xj (bD E.cx)) (Xi ((bD E.cx).length:Int))&&List.all (bD E.cx) isByte)=true:=by rw [cn,YC];simp
 by_cases he:E.en=0
 ·have:=Ki cb cx an f E lf (by omega) (by omega) hb Wi WD hf hR' (dC _) (dC _) (cn _) (cn _) lE (dC _) (cn _) mE he
  have e0:zp E=0:=by unfold zp;rw [if_neg (by omega)]
  unfold MH
  rw [e0]
  exact this
 ·by_cases h1:E.en=1
  ·have:=Kh cb cx an f E lf (by omega) (by omega) hb Wi WD hf hR' (dC _) (dC _) (cn _) (cn _) lE (dC _) (cn _) mE he h1
   have e0:zp E=E.m.q0:=by unfold zp;rw [if_pos h1]
   unfold MH
   rw [e0]
   exact this
  ·have:=Kg cb cx an f E lf (by omega) (by omega) hb Wi WD hf hR' (dC _) (dC _) (cn _) (cn _) lE (dC _) (cn _) mE he h1
   have e0:zp E=0:=by unfold zp;rw [if_neg h1]
   unfold MH
   rw [e0]
   exact this
theorem Me:aY Xh 10 [aZ 1 [av 184,av 5,av 0,av 0,av 0,av 195],.bc .tight 0 [],.bc .tight 0 [],ao 9] (.aQ [.agg [aj 1,aB 5,aZ 1 [],aZ 3 [],ao 7],ao 0]):=by
 have h:=vh [184,5,0,0,0,195] [] [] 9 (by simp [du]) (by decide) (by decide) (by decide)
 have e1:(Hi [184,5,0,0,0,195] [] [] 9).1.en=1:=by kernel_rfl
 have e2:(Hi [184,5,0,0,0,195] [] [] 9).1.m.q0=5:=by kernel_rfl
 have e3:(Hi [184,5,0,0,0,195] [] [] 9).1.cx= []:=by kernel_rfl
 have e4:(Hi [184,5,0,0,0,195] [] [] 9).1.tr= []:=by kernel_rfl
 have e5:(Hi [184,5,0,0,0,195] [] [] 9).2=7:=by kernel_rfl
 have e6:zp (Hi [184,5,0,0,0,195] [] [] 9).1=5:=by unfold zp;rw [if_pos e1,e2]
 unfold MH at h
 rw [e1,e3,e4,e5,e6] at h
 exact h.args (by simp [aI,cT,bD,wD])
theorem Md:aY Xh 10 [.bc .tight 0 [],.bc .tight 0 [],.bc .tight 0 [],ao 9] (.aQ [.agg [aj 3,aB 0,aZ 1 [],aZ 3 [],ao 8],ao 0]):=by
 have h:=vh [] [] [] 9 (by simp [du]) (by decide) (by decide) (by decide)
 have e1:(Hi [] [] [] 9).1.en=3:=by kernel_rfl
 have e3:(Hi [] [] [] 9).1.cx= []:=by kernel_rfl
 have e4:(Hi [] [] [] 9).1.tr= []:=by kernel_rfl
 have e5:(Hi [] [] [] 9).2=8:=by kernel_rfl
 have e6:zp (Hi [] [] [] 9).1=0:=by unfold zp;rw [e1];rfl
 unfold MH at h
 rw [e1,e3,e4,e5,e6] at h
 exact h.args (by simp [aI,cT,bD,wD])
theorem Hf:aY Xh 10 [aZ 1 [av 184,av 5,av 0,av 0,av 0,av 195],.bc .tight 0 [],.bc .tight 0 [],ao 9] (.aQ [.agg [aj 1,aB 5,aZ 1 [],aZ 3 [],ao 7],ao 0]):=Me
theorem He:aY Xh 10 [.bc .tight 0 [],.bc .tight 0 [],.bc .tight 0 [],ao 9] (.aQ [.agg [aj 3,aB 0,aZ 1 [],aZ 3 [],ao 8],ao 0]):=Md
end Go.Proofs.YtbfpahigdpigpaaGreat
