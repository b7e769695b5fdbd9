import Derived.Test.YtbfpahigdpigpaaGreatQ08
import Derived.Test.YtbfpahigdpigpaaGreatQ11
import Derived.Test.YtbfpahigdpigpaaGreatQ12
import Derived.Test.YtbfpahigdpigpaaGreatQ13
import Derived.Test.YtbfpahigdpigpaaGreatQ15
import Derived.Test.YtbfpahigdpigpaaGreatQ17
import Derived.Test.YtbfpahigdpigpaaGreatQ18
open List renaming replicate→Z7,length→aaa,getD_eq_getElem?_getD→aaf,append_assoc→aan,range→aao,length_append→aap,nil_append→aav,drop_zero→aa0,length_replicate→aa4,append_nil→aba,take_of_length_le→abd,length_singleton→abl,eq_nil_of_length_eq_zero→abr
open Go.Proofs.Tryz renaming prog→Z9,f10→aaR
open Int renaming not_lt→aah,toNat→aal
open Go.Value renaming int→aaZ
open Go renaming IntKind→abz
/- Contracts and plain laws that a statement's proof leans on (texts merged:EM8,DSB,DSC,DPC,EM9,EM9B,DPD,ECA,EC0,ECB,EM9C,EM9D,EM10,EM11,EM12,EM13,EM14,EM15,EM17,DPE,RPA,RPB). -/
set_option linter.unusedVariables false
set_option linter.unusedSimpArgs false
set_option maxRecDepth 100000
set_option maxHeartbeats 8000000
namespace Go.Proofs.YtbfpahigdpigpaaGreat
open Go Go.Ev
abbrev eS (o0 fA fx fw fu:Ob) (cb:List Int) (nc nx:Nat) (e:kp) (v:Nat) (dd:List Ob):List Ob:=o0::ay (vg nc nx)::aF::aF::ay (bD cb)::aF::aF::ay (bD e.cx)::ay (bD e.fr)::ay (bD e.st)::aF::ay (uC e.m (wD e.an) (fe e.tr) v e.en)::fA::fx::fw::fu:: .dD v 3::dd
theorem N7 {m:aq} {x:XS} {ld:Int} (hm:x.may=true) (ho:x.op=26∨x.op=27∨x.op=30∨x.op=31):(fg m x ld).2=0:=by
 rw [qh hm]
 obtain ⟨op,w,ab,ae,aa,af,aj,cc⟩:=x
 rcases ho with h|h|h|h<;>(simp only at h;subst h;rfl)
theorem pf {op w ab ae aa af aj cc:Int} (h:bC op w ab ae aa af aj cc=true) (ho:op=26∨op=27):fS w=true:=by
 have hs:=(dw h).2
 rcases ho with rfl|rfl
 ·rw [show aA 26=7 from rfl] at hs
  simp [iy] at hs;exact hs.1
 ·rw [show aA 27=8 from rfl] at hs
  simp [iy] at hs;exact hs.1
theorem rj {op w ab ae aa af aj cc:Int} (h:bC op w ab ae aa af aj cc=true):op≤127:=by
 have hs:=(dw h).2
 have VO:aA op≠0:=by
  intro e
  rw [e] at hs
  simp [iy] at hs
 rcases gQ VO with rfl|rfl|rfl|rfl|rfl|rfl|rfl|rfl|rfl|rfl|rfl|rfl|rfl|rfl|rfl|rfl|rfl|rfl|rfl|rfl|rfl|rfl|rfl|rfl|rfl|rfl|rfl|rfl|rfl|rfl|rfl|rfl<;>decide
theorem Aj {b:List Int} {x:XS} (h:im b=some x):x.may=true:=by
 unfold im at h
 split at h
 ·rename_i hf
  cases h
  unfold iZ at hf
  rw [Bool.and_eq_true] at hf
  exact hf.1
 ·cases h
theorem bne {a b:Int} (h:a≠b):(a==b)=false:=by rw [fO];exact h
theorem KT {b:List Int} (h:dr b) (k:Nat):dr (b.drop k):=fun x hx=>h x (List.mem_of_mem_drop hx)
theorem zk (o0 fA fx fw fu:Ob) (cb:List Int) (hb:dr cb) (hc:cb.length≤16384) (nx:Nat) (VU:nx≤256) (e:kp) (hx:e.cx.length=nx) (hf:e.fr.length=64) (hs:e.st.length=264) (ht:e.tr.length≤100000):
  ∃(v:Nat) (dd:List Ob),(v=0∨v=1∧(bu cb e).2=true)∧ak Z9 47 [.ptr false 11 0] (eS o0 fA fx fw fu cb cb.length nx e 0 []) (ax (bu cb e).2) (eS o0 fA fx fw fu cb cb.length nx (bu cb e).1 v dd):=by
 obtain ⟨m,cx,fr,st,an,tr,en⟩:=e
 simp only at hx hf hs ht
 subst hx
 cases h0:iP 1048576 cb.length m.pc 1 with
 |false=>
  have es:bu cb ⟨m,cx,fr,st,an,tr,en⟩=(⟨m,cx,fr,st,an,tr,3⟩,false):=by unfold bu;rw [if_neg (by rw [h0];decide)]
  rw [es]
  exact ⟨0,[],.inl rfl,BX o0 fA fx fw fu (bD cb) (bD cx) (bD fr) (bD st) (wD an) (fe tr) m en cb.length cx.length hc (QK h0)⟩
 |true=>
  obtain ⟨p0,p1,p2⟩:=N1 h0
  have hk0:0≤abz.u64.wrap (m.pc - 1048576):=by rw [bN];omega
  have hF:nN (bD cb) (0+aal (abz.u64.wrap (m.pc - 1048576))*1) ((cb.length - aal (abz.u64.wrap (m.pc - 1048576)))*1) (bD (cb.drop (mi 1048576 m.pc))):=by
   refine ⟨?_,by rw [aQ];omega⟩
   have:0+aal (abz.u64.wrap (m.pc - 1048576))*1=mi 1048576 m.pc:=by unfold mi;omega
   rw [this,Nat.mul_one]
   unfold bD
   rw [← List.map_drop,abd]
   rw [List.length_map,List.length_drop]
   unfold mi
   omega
  have hr:=JX (cb.drop (mi 1048576 m.pc)) (KT hb _)
  cases hM:im (cb.drop (mi 1048576 m.pc)) with
  |none=>
   rw [hM] at hr
   have es:bu cb ⟨m,cx,fr,st,an,tr,en⟩=(⟨m,cx,fr,st,an,tr,3⟩,false):=by unfold bu;rw [if_pos h0,hM]
   rw [es]
   exact ⟨0,[aF,aF,aF],.inl rfl,Gs o0 fA fx fw fu (bD cb) (bD cx) (bD fr) (bD st) (wD an) (fe tr) m en cb.length cx.length hc p0 p1 p2 _ hF (cD _) 0 0 0 0 0 0 0 0 0 30 hr (by decide)⟩
  |some x=>
   rw [hM] at hr
   have hm:=Aj hM
   have hd:=fun ld=>H0 m x ld (rj hm)
   have Wo:=fun ld=>N7 (m:=m) (ld:=ld) hm
   obtain ⟨op,w,ab,ae,aa,af,aj,cc⟩:=x
   have Vm:bC op w ab ae aa af aj cc=true:=hm
   have Va:=rj Vm
   obtain ⟨⟨d0,d1,s0,s1,b0,b1,_⟩,_⟩:=dw Vm
   by_cases Vy:op=31
   ·subst Vy
    have ha:=Bl m 31 w ab ae aa af aj cc Va (by decide) (by decide) (by decide) Vm
    have hn:=Nh m
    cases hq:qO m.q0 with
    |false=>
     rw [hq] at hn
     have es:bu cb ⟨m,cx,fr,st,an,tr,en⟩=(⟨m,cx,fr,st,an,tr,3⟩,false):=by
      simp [bu,h0,hM,hq]
     rw [es]
     exact ⟨0,Z7 6 .dead,.inl rfl,zr o0 fA fx fw fu (bD cb) (bD cx) (bD fr) (bD st) (wD an) (fe tr) m en cb.length cx.length hc p0 p1 p2 _ hF (cD _) _ _ _ _ _ _ _ _ _ hr rfl rfl rfl rfl _ _ _ ha _ hn⟩
    |true=>
     rw [hq] at hn
     cases an with
     |nil=>
      have es:bu cb ⟨m,cx,fr,st,[],tr,en⟩=(⟨m,cx,fr,st,[],tr,2⟩,false):=by
       simp [bu,h0,hM,hq]
      rw [es]
      exact ⟨0,Z7 6 .dead,.inl rfl,zp o0 fA fx fw fu (bD cb) (bD cx) (bD fr) (bD st) (fe tr) m en cb.length cx.length hc p0 p1 p2 _ hF (cD _) _ _ _ _ _ _ _ _ _ hr rfl rfl rfl rfl _ _ _ ha _ hn⟩
     |cons a0 ar=>
      have es:bu cb ⟨m,cx,fr,st,a0::ar,tr,en⟩=(⟨(fg m ⟨31,w,ab,ae,aa,af,aj,cc⟩ a0).1,cx,fr,st,ar,tr++ [⟨ko m.q0,mS m (mT (ko m.q0)),a0⟩],0⟩,true):=by
       simp [bu,h0,hM,hq]
      rw [es]
      have hD:=hd a0
      rw [Wo a0 (.inr (.inr (.inr rfl)))] at hD
      have hg:=Ni m _ hn
      have et:fe (tr++ [⟨ko m.q0,mS m (mT (ko m.q0)),a0⟩])=fe tr++ [.agg [av (ko m.q0),aZ 1 (wD (mS m (mT (ko m.q0)))),au a0]]:=by simp [fe,Et.d]
      refine ⟨1,Z7 9 .dead,.inr ⟨rfl,rfl⟩,?_⟩
      have:=Gu o0 fA fx fw fu (bD cb) (bD cx) (bD fr) (bD st) (wD ar) (fe tr) _ m en cb.length cx.length hc p0 p1 p2 _ hF (cD _) _ _ _ _ _ _ _ _ _ hr rfl rfl rfl rfl _ _ _ ha _ a0 (by simpa [fe] using ht) hn hg _ _ hD rfl
      rw [← et] at this
      exact this
   by_cases UR:op=27
   ·subst UR
    have hw:=pf Vm (.inr rfl)
    have Y6:=eU hw
    have ha:=Il m w ab ae aa af aj cc d0 d1 s0 s1 b0 b1 (by omega) (by omega) Vm
    have T5:=Ih m w ab ae aa af aj cc d0 d1 s0 s1 b0 b1 hw Vm
    have hW:=Gf o0 fA fx fw fu (.dD 0 1) .dead (ay [ao 27,ao w,ao ab,ao ae,ao aa,av af,av aj,ao cc]) (ay [ao 27,ao w,ao ab,ao ae,ao aa,av af,av aj,ao cc]) .dead .dead cb cx fr st (uC m (wD an) (fe tr) 0 3) 0 hc VU hf hs (u64 (rg m.rl aa+u64 af)) (w / 8) (aI (rg m.rl ae) w) (by omega)
    cases hS:ir cx fr st (u64 (rg m.rl aa+u64 af)) (w / 8) (aI (rg m.rl ae) w) with
    |none=>
     rw [hS] at hW
     have es:bu cb ⟨m,cx,fr,st,an,tr,en⟩=(⟨m,cx,fr,st,an,tr,3⟩,false):=by
      simp [bu,h0,hM,hS]
     rw [es]
     exact ⟨0,Z7 6 .dead,.inl rfl,wv o0 fA fx fw fu (bD cb) (bD cx) (bD fr) (bD st) (wD an) (fe tr) m en cb.length cx.length hc p0 p1 p2 _ hF (cD _) _ _ _ _ _ _ _ _ _ hr rfl rfl rfl rfl _ _ _ ha _ T5 hW⟩
    |some r=>
     rw [hS] at hW
     have es:bu cb ⟨m,cx,fr,st,an,tr,en⟩=(⟨(fg m ⟨27,w,ab,ae,aa,af,aj,cc⟩ 0).1,r.1,r.2.1,r.2.2,an,tr,0⟩,true):=by
      simp [bu,h0,hM,hS]
     rw [es]
     have hD:=hd 0
     rw [Wo 0 (.inr (.inl rfl))] at hD
     exact ⟨0,Z7 8 .dead,.inl rfl,BV o0 fA fx fw fu (bD cb) (bD cx) (bD fr) (bD st) (wD an) (fe tr) m en cb.length cx.length hc p0 p1 p2 _ hF (cD _) _ _ _ _ _ _ _ _ _ hr rfl rfl rfl rfl _ _ _ ha _ _ _ _ T5 hW _ _ hD rfl⟩
   by_cases Vv:op=26
   ·subst Vv
    have hw:=pf Vm (.inl rfl)
    have Y6:=eU hw
    have ha:=Im m w ab ae aa af aj cc d0 d1 s0 s1 b0 b1 (by omega) (by omega) Vm
    have hL:=AV o0 fA fx fw fu (.dD 0 1) .dead (ay [ao 26,ao w,ao ab,ao ae,ao aa,av af,av aj,ao cc]) (ay [ao 26,ao w,ao ab,ao ae,ao aa,av af,av aj,ao cc]) .dead cb cx fr st (uC m (wD an) (fe tr) 0 3) 0 hc VU hf hs (u64 (rg m.rl aa+u64 af)) (w / 8) (by omega)
    cases hS:jE cb cx fr st (u64 (rg m.rl aa+u64 af)) (w / 8) with
    |none=>
     rw [hS] at hL
     have es:bu cb ⟨m,cx,fr,st,an,tr,en⟩=(⟨m,cx,fr,st,an,tr,3⟩,false):=by
      simp [bu,h0,hM,hS]
     rw [es]
     exact ⟨0,Z7 5 .dead,.inl rfl,zo o0 fA fx fw fu (bD cb) (bD cx) (bD fr) (bD st) (wD an) (fe tr) m en cb.length cx.length hc p0 p1 p2 _ hF (cD _) _ _ _ _ _ _ _ _ _ hr rfl rfl rfl rfl _ _ _ ha hL⟩
    |some z=>
     rw [hS] at hL
     have es:bu cb ⟨m,cx,fr,st,an,tr,en⟩=(⟨(fg m ⟨26,w,ab,ae,aa,af,aj,cc⟩ z).1,cx,fr,st,an,tr,0⟩,true):=by
      simp [bu,h0,hM,hS]
     rw [es]
     have hD:=hd z
     rw [Wo z (.inl rfl)] at hD
     exact ⟨0,Z7 7 .dead,.inl rfl,Gt o0 fA fx fw fu (bD cb) (bD cx) (bD fr) (bD st) (wD an) (fe tr) m en cb.length cx.length hc p0 p1 p2 _ hF (cD _) _ _ _ _ _ _ _ _ _ hr rfl rfl rfl rfl _ _ _ ha _ hL _ _ hD rfl⟩
   by_cases VC:op=30
   ·subst VC
    have ha:=Ik m w ab ae aa af aj cc d0 d1 s0 s1 b0 b1 Vm
    have hL:=AV o0 fA fx fw fu (.dD 0 1) .dead (ay [ao 30,ao w,ao ab,ao ae,ao aa,av af,av aj,ao cc]) (ay [ao 30,ao w,ao ab,ao ae,ao aa,av af,av aj,ao cc]) .dead cb cx fr st (uC m (wD an) (fe tr) 0 3) 0 hc VU hf hs m.q4 8 (by omega)
    cases hS:jE cb cx fr st m.q4 8 with
    |none=>
     rw [hS] at hL
     have es:bu cb ⟨m,cx,fr,st,an,tr,en⟩=(⟨m,cx,fr,st,an,tr,3⟩,false):=by
      simp [bu,h0,hM,hS]
     rw [es]
     exact ⟨0,Z7 5 .dead,.inl rfl,BW o0 fA fx fw fu (bD cb) (bD cx) (bD fr) (bD st) (wD an) (fe tr) m en cb.length cx.length hc p0 p1 p2 _ hF (cD _) _ _ _ _ _ _ _ _ _ hr rfl rfl rfl rfl _ _ _ ha hL⟩
    |some z=>
     rw [hS] at hL
     have hD:=hd z
     rw [Wo z (.inr (.inr (.inl rfl)))] at hD
     by_cases hz:z=0
     ·have es:bu cb ⟨m,cx,fr,st,an,tr,en⟩=(⟨(fg m ⟨30,w,ab,ae,aa,af,aj,cc⟩ z).1,cx,fr,st,an,tr,1⟩,false):=by
       simp [bu,h0,hM,hS,hz]
      rw [es]
      exact ⟨0,Z7 7 .dead,.inl rfl,Gr o0 fA fx fw fu (bD cb) (bD cx) (bD fr) (bD st) (wD an) (fe tr) m en cb.length cx.length hc p0 p1 p2 _ hF (cD _) _ _ _ _ _ _ _ _ _ hr rfl rfl rfl rfl _ _ _ ha _ hL _ _ hD rfl (by rw [hz];rfl)⟩
     ·have es:bu cb ⟨m,cx,fr,st,an,tr,en⟩=(⟨(fg m ⟨30,w,ab,ae,aa,af,aj,cc⟩ z).1,cx,fr,st,an,tr,0⟩,true):=by
       simp [bu,h0,hM,hS,hz]
      rw [es]
      exact ⟨0,Z7 7 .dead,.inl rfl,JB o0 fA fx fw fu (bD cb) (bD cx) (bD fr) (bD st) (wD an) (fe tr) m en cb.length cx.length hc p0 p1 p2 _ hF (cD _) _ _ _ _ _ _ _ _ _ hr rfl rfl rfl rfl _ _ _ ha _ hL _ _ hD rfl (bne hz)⟩
   ·have ha:=Bl m op w ab ae aa af aj cc Va (bne Vv) (bne UR) (bne VC) Vm
    by_cases he:(fg m ⟨op,w,ab,ae,aa,af,aj,cc⟩ 0).2=0
    ·have es:bu cb ⟨m,cx,fr,st,an,tr,en⟩=(⟨(fg m ⟨op,w,ab,ae,aa,af,aj,cc⟩ 0).1,cx,fr,st,an,tr,0⟩,true):=by
      simp [bu,h0,hM,Vy,UR,Vv,VC,he]
     rw [es]
     exact ⟨0,Z7 7 .dead,.inl rfl,Gv o0 fA fx fw fu (bD cb) (bD cx) (bD fr) (bD st) (wD an) (fe tr) m en cb.length cx.length hc p0 p1 p2 _ hF (cD _) _ _ _ _ _ _ _ _ _ hr (bne Vv) (bne UR) (bne VC) (bne Vy) _ _ _ ha _ _ (hd 0) he⟩
    ·have es:bu cb ⟨m,cx,fr,st,an,tr,en⟩=(⟨m,cx,fr,st,an,tr,3⟩,false):=by
      simp [bu,h0,hM,Vy,UR,Vv,VC,he]
     rw [es]
     exact ⟨0,Z7 7 .dead,.inl rfl,zs o0 fA fx fw fu (bD cb) (bD cx) (bD fr) (bD st) (wD an) (fe tr) m en cb.length cx.length hc p0 p1 p2 _ hF (cD _) _ _ _ _ _ _ _ _ _ hr (bne Vv) (bne UR) (bne VC) (bne Vy) _ _ _ ha _ _ (hd 0) he⟩
theorem B3 (n:Nat) (s:List Ob):∀(tl:List Ob) (j:Nat),6≤j→Gy (aao 6) n s tl j=tl
 | [],_,_=>rfl
 |o::tl,j,h=>by
  have:(aao 6).idxOf? j=none:=by rw [List.idxOf?_eq_none_iff];simp;omega
  rw [Gy,this,B3 n s tl (j+1) (by omega)]
theorem SE (o0 o1 o2 o3 o4 o5:Ob) (tl ex:List Ob) {y1:Ob} {q:D} {cx:List Int} (cb fr st:List Int) (hq:BF q y1 cx) (hy:y1= .dead∨∃i s n,q= .dm i s n) (c2:List Int):
  pJ (aao 6) (o0::o1::o2::o3::o4::o5::tl) (dS .dead (yX q y1 c2) q cb fr st++ex)=dS .dead (yX q y1 c2) q cb fr st++(tl++ex.map (Ob.rn (gL (aao 6) (tl.length+6)))):=by
 rcases hq with ⟨rfl,rfl⟩|⟨rfl,rfl⟩
 ·show [aF,ay (D.jR (gL (aao 6) (tl.length+6)) (bD c2)),aF,ay (D.jR (gL (aao 6) (tl.length+6)) (bD fr)),ay (dC (.dm 1 1 cx.length) cb),ay (D.jR (gL (aao 6) (tl.length+6)) (bD st))]++Gy (aao 6) (tl.length+6) _ tl 6++_=_
  rw [eE,eE,eE,B3 _ _ _ _ (Nat.le_refl 6),aan]
  rfl
 ·obtain rfl:y1= .dead:=by
   rcases hy with h|⟨i,s,n,h⟩
   ·exact h
   ·cases h
  show [aF,aF,aF,ay (D.jR (gL (aao 6) (tl.length+6)) (bD fr)),ay (dC (aZ 1 (bD [])) cb),ay (D.jR (gL (aao 6) (tl.length+6)) (bD st))]++Gy (aao 6) (tl.length+6) _ tl 6++_=_
  rw [eE,eE,B3 _ _ _ _ (Nat.le_refl 6),aan]
  rfl
theorem GG (b:List Int):im (b.take 20)=im b:=by
 have back:∀ {x:XS} {c:List Int},nK x=true→cR x<+:c→im c=some x:=fun h p=>by
  obtain ⟨t,rfl⟩:=p
  exact GI h t
 cases h:im b with
 |some x=>
  obtain ⟨h1,h2⟩:=uL h
  exact back h1 (List.prefix_take_iff.2 ⟨h2,by have:=(IC x).2;omega⟩)
 |none=>
  cases h':im (b.take 20) with
  |none=>rfl
  |some x=>
   obtain ⟨h1,h2⟩:=uL h'
   rw [back h1 (h2.trans (List.take_prefix ..))] at h
   cases h
theorem QX (l:List Int):List.take (aal (if (20:Int)<((bD l).length:Int) then (20:Int) else ((bD l).length:Int))) (bD l)=bD (l.take 20):=by
 rw [aQ]
 split
 ·exact (yG ..).symm
 ·rw [show aal (l.length:Int)=l.length by omega,abd (by rw [aQ];exact Nat.le_refl _),abd (by omega)]
abbrev tS (y1:Ob) (q:D) (cb:List Int) (e:kp) (v:Nat) (dd:List Ob):List Ob:= .dead::y1::aF::ay (bD e.fr)::ay (dC q cb)::ay (bD e.st)::ay (uD e.m (wD e.an) (fe e.tr) v):: .dD v 3::dd
section
variable (y1:Ob) (q:D) (cb cx fr st:List Int) (hq:BF q y1 cx) (hy:y1= .dead∨∃i s n,q= .dm i s n) (hc:cb.length≤16384) (hx:cx.length≤256) (hf:fr.length=64) (hs:st.length=264) (tl:List Ob)
theorem Rh:∀x∈aao 6,x<(dS .dead y1 q cb fr st++tl).length:=fun x h=>by
 rw [aap]
 have:=List.mem_range.1 h
 show x<6+_
 omega
include hq hy
theorem NK:yX q y1 cx=y1:=by rcases hq with ⟨rfl,rfl⟩|⟨rfl,_⟩<;>rfl
theorem JN (ex:List Ob):pJ (aao 6) (dS .dead y1 q cb fr st++tl) (dS .dead y1 q cb fr st++ex)=dS .dead y1 q cb fr st++(tl++ex.map (Ob.rn (gL (aao 6) (tl.length+6)))):=by
 have:=SE .dead y1 .dead (ay (bD fr)) (ay (dC q cb)) (ay (bD st)) tl ex cb fr st hq hy cx
 rw [NK y1 q cx hq hy] at this
 exact this
include hc hx
theorem Nd (a:Int) (h:iP 1048576 cb.length a 1=true):ak Z9 51 [.ptr false 4 0,au a] (dS .dead y1 q cb fr st++tl) (.aL [aZ 1 (bD (cb.drop (mi 1048576 a))),av 0]) (dS .dead y1 q cb fr st++(tl++ [aF])):=by
 have h1:=Bm .dead y1 q cb cx fr st hq hx hc a
 rw [if_pos h,if_pos h] at h1
 have h2:=h1.rn (aao 6) (dS .dead y1 q cb fr st++tl) rfl (List.nodup_range) (Rh y1 q cb fr st tl) (by have:=JN y1 q cb cx fr st hq hy tl [];simpa using this)
 rw [JN y1 q cb cx fr st hq hy tl [aF]] at h2
 exact h2
theorem Nf (a:Int) (h:iP 1048576 cb.length a 1=false):ak Z9 51 [.ptr false 4 0,au a] (dS .dead y1 q cb fr st++tl) (.aL [.aY .tight 0 [],av 20]) (dS .dead y1 q cb fr st++tl):=by
 have h1:=Bm .dead y1 q cb cx fr st hq hx hc a
 rw [if_neg (by rw [h];decide),if_neg (by rw [h];decide)] at h1
 have e:pJ (aao 6) (dS .dead y1 q cb fr st++tl) (dS .dead y1 q cb fr st)=dS .dead y1 q cb fr st++tl:=by have:=JN y1 q cb cx fr st hq hy tl [];simpa using this
 have h2:=h1.rn (aao 6) (dS .dead y1 q cb fr st++tl) rfl (List.nodup_range) (Rh y1 q cb fr st tl) e
 rw [aba,e] at h2
 exact h2
include hf hs
theorem KO (a n:Int) (hn:n=1∨n=2∨n=4∨n=8):ak Z9 56 [.ptr false 4 0,au a,av n] (dS .dead y1 q cb fr st++tl) (match jE cb cx fr st a n with|some z=> .aL [au z,av 0]|none=> .aL [au 0,av 20]) (dS .dead y1 q cb fr st++tl):=by
 have e:pJ (aao 6) (dS .dead y1 q cb fr st++tl) (dS .dead y1 q cb fr st)=dS .dead y1 q cb fr st++tl:=by have:=JN y1 q cb cx fr st hq hy tl [];simpa using this
 have h:=(Nm .dead y1 q cb cx fr st hq hc hx hf hs a n hn).rn (aao 6) (dS .dead y1 q cb fr st++tl) rfl (List.nodup_range) (Rh y1 q cb fr st tl) e
 rw [e] at h
 cases hl:jE cb cx fr st a n<;>(rw [hl] at h;exact h)
theorem Mg (a n w:Int) (hn:n=1∨n=2∨n=4∨n=8):ak Z9 54 [.ptr false 4 0,au a,av n,au w] (dS .dead y1 q cb fr st++tl) (match ir cx fr st a n w with|some _=> .int .i64 0|none=> .int .i64 20) (match ir cx fr st a n w with|some r=>dS .dead (yX q y1 r.1) q cb r.2.1 r.2.2++tl|none=>dS .dead y1 q cb fr st++tl):=by
 have e:pJ (aao 6) (dS .dead y1 q cb fr st++tl) (dS .dead y1 q cb fr st)=dS .dead y1 q cb fr st++tl:=by have:=JN y1 q cb cx fr st hq hy tl [];simpa using this
 have h:=(Lo .dead y1 q cb cx fr st hq hc hx hf hs a n hn w).rn (aao 6) (dS .dead y1 q cb fr st++tl) rfl (List.nodup_range) (Rh y1 q cb fr st tl) e
 cases hl:ir cx fr st a n w with
 |none=>rw [hl] at h;simp only [e] at h;exact h
 |some r=>
  rw [hl] at h
  have e2:=SE .dead y1 .dead (ay (bD fr)) (ay (dC q cb)) (ay (bD st)) tl [] cb r.2.1 r.2.2 hq hy r.1
  rw [aba,List.map_nil,aba] at e2
  simp only at h
  rw [show pJ (aao 6) (dS .dead y1 q cb fr st++tl) (dS .dead (yX q y1 r.1) q cb r.2.1 r.2.2)=_ from e2] at h
  exact h
end
theorem JP (v:Int):aP Z9 128 [av v] (av (mT v:Int)):=by
 unfold mT
 by_cases h0:0≤v
 ·by_cases h1:v≤15
  ·rw [if_pos ⟨h0,h1⟩]
   have e:Int.tmod v 6=((v.toNat%6:Nat):Int):=by rw [Int.tmod_eq_emod_of_nonneg h0];omega
   rw [← e]
   exact Gz v h0 h1
  ·rw [if_neg (fun h=>h1 h.2)];exact wF v (by omega)
 ·rw [if_neg (fun h=>h0 h.1)];exact wE v (by omega)
theorem MD (m:aq) (v:Int) (hn:aP Z9 85 [.agg (eW m)] (.aL [av v,ax true])):aP Z9 86 [.agg (eW m)] (aZ 1 (wD (mS m (mT v)))):=by
 have ha:=JP v
 have h5:=FV v
 generalize mT v=n at ha h5
 have:n=0∨n=1∨n=2∨n=3∨n=4∨n=5:=by omega
 rcases this with rfl|rfl|rfl|rfl|rfl|rfl
 ·exact CD m v hn ha
 ·exact CC m v hn ha
 ·exact CB m v hn ha
 ·exact CA m v hn ha
 ·exact Cz m v hn ha
 ·exact Cy m v hn ha
theorem Io (y1:Ob) (q:D) (cb:List Int) (hb:dr cb) (hc:cb.length≤16384) (e:kp) (hq:BF q y1 e.cx) (hy:y1= .dead∨∃i s n,q= .dm i s n) (hx:e.cx.length≤256) (hf:e.fr.length=64) (hs:e.st.length=264) (ht:e.tr.length≤100000):
  ∃(v:Nat) (dd:List Ob),(v=0∨v=1∧(bu cb e).2=true)∧ak Z9 29 [.ptr false 6 0] (tS y1 q cb e 0 []) (.aL [ao (bu cb e).1.en,ax (bu cb e).2]) (tS (yX q y1 (bu cb e).1.cx) q cb (bu cb e).1 v dd):=by
 obtain ⟨m,cx,fr,st,an,tr,en⟩:=e
 simp only at hq hx hf hs ht
 have We:=NK y1 q cx hq hy
 cases h0:iP 1048576 cb.length m.pc 1 with
 |false=>
  have es:bu cb ⟨m,cx,fr,st,an,tr,en⟩=(⟨m,cx,fr,st,an,tr,3⟩,false):=by unfold bu;rw [if_neg (by rw [h0];decide)]
  rw [es]
  refine ⟨0,[],.inl rfl,?_⟩
  simp only [We]
  exact BN _ _ _ _ _ _ _ _ 20 (by decide) (Nf y1 q cb cx fr st hq hy hc hx [ay (uD m (wD an) (fe tr) 0),.dD 0 3] m.pc h0)
 |true=>
  have hF:=fun an'=>Nd y1 q cb cx fr st hq hy hc hx [ay (uD m an' (fe tr) 0),.dD 0 3] m.pc h0
  have hr:=Iq ((cb.drop (mi 1048576 m.pc)).take 20) (fun y hy=>hb y (List.mem_of_mem_drop (List.mem_of_mem_take hy))) (by rw [List.length_take];omega)
  rw [GG,← QX] at hr
  cases hM:im (cb.drop (mi 1048576 m.pc)) with
  |none=>
   rw [hM] at hr
   have es:bu cb ⟨m,cx,fr,st,an,tr,en⟩=(⟨m,cx,fr,st,an,tr,3⟩,false):=by unfold bu;rw [if_pos h0,hM]
   rw [es]
   refine ⟨0,Z7 3 .dead,.inl rfl,?_⟩
   simp only [We]
   exact Ga _ _ _ _ _ _ _ _ _ (hF _) 0 0 0 0 0 0 0 0 0 30 hr (by decide)
  |some x=>
   rw [hM] at hr
   have hm:=Aj hM
   have hd:=fun ld=>Ce m x ld (rj hm)
   have Wo:=fun ld=>N7 (m:=m) (ld:=ld) hm
   obtain ⟨op,w,ab,ae,aa,af,aj,cc⟩:=x
   have Vm:bC op w ab ae aa af aj cc=true:=hm
   have Va:=rj Vm
   obtain ⟨⟨d0,d1,s0,s1,b0,b1,_⟩,_⟩:=dw Vm
   by_cases Vy:op=31
   ·subst Vy
    have ha:=AD m 31 w ab ae aa af aj cc Va (by decide) (by decide) (by decide) Vm
    have hn:=Mn m
    cases XC:qO m.q0 with
    |false=>
     rw [XC] at hn
     have es:bu cb ⟨m,cx,fr,st,an,tr,en⟩=(⟨m,cx,fr,st,an,tr,3⟩,false):=by
      simp [bu,h0,hM,XC]
     rw [es]
     refine ⟨0,Z7 5 .dead,.inl rfl,?_⟩
     simp only [We]
     exact zg _ _ _ _ _ _ _ _ _ (hF _) _ _ _ _ _ _ _ _ _ hr rfl _ _ _ ha _ hn
    |true=>
     rw [XC] at hn
     cases an with
     |nil=>
      have es:bu cb ⟨m,cx,fr,st,[],tr,en⟩=(⟨m,cx,fr,st,[],tr,2⟩,false):=by
       simp [bu,h0,hM,XC]
      rw [es]
      refine ⟨0,Z7 5 .dead,.inl rfl,?_⟩
      simp only [We]
      exact zf _ _ _ _ _ _ _ _ (hF _) _ _ _ _ _ _ _ _ _ hr rfl _ _ _ ha _ hn
     |cons a0 ar=>
      have es:bu cb ⟨m,cx,fr,st,a0::ar,tr,en⟩=(⟨(fg m ⟨31,w,ab,ae,aa,af,aj,cc⟩ a0).1,cx,fr,st,ar,tr++ [⟨ko m.q0,mS m (mT (ko m.q0)),a0⟩],0⟩,true):=by
       simp [bu,h0,hM,XC]
      rw [es]
      have hD:=hd a0
      rw [Wo a0 (.inr (.inr (.inr rfl)))] at hD
      have hg:=MD m _ hn
      have et:fe (tr++ [⟨ko m.q0,mS m (mT (ko m.q0)),a0⟩])=fe tr++ [.agg [av (ko m.q0),aZ 1 (wD (mS m (mT (ko m.q0)))),au a0]]:=by simp [fe,Et.d]
      refine ⟨1,Z7 9 .dead,.inr ⟨rfl,rfl⟩,?_⟩
      simp only [We]
      have:=Gc _ _ _ _ _ (wD ar) _ _ _ a0 _ (hF _) _ _ _ _ _ _ _ _ _ hr rfl rfl _ _ _ ha _ (by simpa [fe] using ht) hn hg _ _ hD rfl
      rw [← et] at this
      exact this
   have Ut:∀k,op≠k→(op==k)=false:=fun k h=>by simpa using h
   by_cases UR:op=27
   ·subst UR
    have hw:=pf Vm (.inr rfl)
    have Y6:=eU hw
    have ha:=GM m w ab ae aa af aj cc d0 d1 s0 s1 b0 b1 (by omega) (by omega) Vm
    have T5:=Gw m w ab ae aa af aj cc d0 d1 s0 s1 b0 b1 hw Vm
    have hW:=Mg y1 q cb cx fr st hq hy hc hx hf hs [ay (uD m (wD an) (fe tr) 0),.dD 0 3,aF,aF,xB 27 w ab ae aa af aj cc,aF,aF] (u64 (rg m.rl aa+u64 af)) (w / 8) (aI (rg m.rl ae) w) (by omega)
    cases hS:ir cx fr st (u64 (rg m.rl aa+u64 af)) (w / 8) (aI (rg m.rl ae) w) with
    |none=>
     rw [hS] at hW
     have es:bu cb ⟨m,cx,fr,st,an,tr,en⟩=(⟨m,cx,fr,st,an,tr,3⟩,false):=by
      simp [bu,h0,hM,hS]
     rw [es]
     refine ⟨0,Z7 5 .dead,.inl rfl,?_⟩
     simp only [We]
     exact wi _ _ _ _ _ _ _ _ _ (hF _) _ _ _ _ _ _ _ _ _ hr rfl rfl _ _ ha _ T5 hW
    |some r=>
     rw [hS] at hW
     have es:bu cb ⟨m,cx,fr,st,an,tr,en⟩=(⟨(fg m ⟨27,w,ab,ae,aa,af,aj,cc⟩ 0).1,r.1,r.2.1,r.2.2,an,tr,0⟩,true):=by
      simp [bu,h0,hM,hS]
     rw [es]
     have hD:=hd 0
     rw [Wo 0 (.inr (.inl rfl))] at hD
     exact ⟨0,Z7 7 .dead,.inl rfl,BM _ _ _ _ _ _ _ _ _ _ _ _ (hF _) _ _ _ _ _ _ _ _ _ hr rfl rfl rfl _ _ ha _ T5 hW _ _ hD rfl⟩
   by_cases Vv:op=26
   ·subst Vv
    have hw:=pf Vm (.inl rfl)
    have Y6:=eU hw
    have ha:=GN m w ab ae aa af aj cc d0 d1 s0 s1 b0 b1 (by omega) (by omega) Vm
    have hL:=KO y1 q cb cx fr st hq hy hc hx hf hs [ay (uD m (wD an) (fe tr) 0),.dD 0 3,aF,aF,xB 26 w ab ae aa af aj cc,aF] (u64 (rg m.rl aa+u64 af)) (w / 8) (by omega)
    cases hS:jE cb cx fr st (u64 (rg m.rl aa+u64 af)) (w / 8) with
    |none=>
     rw [hS] at hL
     have es:bu cb ⟨m,cx,fr,st,an,tr,en⟩=(⟨m,cx,fr,st,an,tr,3⟩,false):=by
      simp [bu,h0,hM,hS]
     rw [es]
     refine ⟨0,Z7 4 .dead,.inl rfl,?_⟩
     simp only [We]
     exact qo _ _ _ _ _ _ _ _ _ (hF _) _ _ _ _ _ _ _ _ _ hr rfl rfl _ _ ha hL
    |some z=>
     rw [hS] at hL
     have es:bu cb ⟨m,cx,fr,st,an,tr,en⟩=(⟨(fg m ⟨26,w,ab,ae,aa,af,aj,cc⟩ z).1,cx,fr,st,an,tr,0⟩,true):=by
      simp [bu,h0,hM,hS]
     rw [es]
     have hD:=hd z
     rw [Wo z (.inl rfl)] at hD
     refine ⟨0,Z7 6 .dead,.inl rfl,?_⟩
     simp only [We]
     exact Gb _ _ _ _ _ _ _ _ _ (hF _) _ _ _ _ _ _ _ _ _ hr rfl rfl rfl _ _ ha _ hL _ _ hD rfl
   by_cases VC:op=30
   ·subst VC
    have ha:=GL m w ab ae aa af aj cc d0 d1 s0 s1 b0 b1 Vm
    have hL:=KO y1 q cb cx fr st hq hy hc hx hf hs [ay (uD m (wD an) (fe tr) 0),.dD 0 3,aF,aF,xB 30 w ab ae aa af aj cc,aF] m.q4 8 (by omega)
    cases hS:jE cb cx fr st m.q4 8 with
    |none=>
     rw [hS] at hL
     have es:bu cb ⟨m,cx,fr,st,an,tr,en⟩=(⟨m,cx,fr,st,an,tr,3⟩,false):=by
      simp [bu,h0,hM,hS]
     rw [es]
     refine ⟨0,Z7 4 .dead,.inl rfl,?_⟩
     simp only [We]
     exact qo _ _ _ _ _ _ _ _ _ (hF _) _ _ _ _ _ _ _ _ _ hr rfl rfl _ _ ha hL
    |some z=>
     rw [hS] at hL
     have hD:=hd z
     rw [Wo z (.inr (.inr (.inl rfl)))] at hD
     by_cases hz:z=0
     ·have es:bu cb ⟨m,cx,fr,st,an,tr,en⟩=(⟨(fg m ⟨30,w,ab,ae,aa,af,aj,cc⟩ z).1,cx,fr,st,an,tr,1⟩,false):=by
       simp [bu,h0,hM,hS,hz]
      rw [es]
      refine ⟨0,Z7 6 .dead,.inl rfl,?_⟩
      simp only [We]
      exact F9 _ _ _ _ _ _ _ _ _ (hF _) _ _ _ _ _ _ _ _ _ hr rfl rfl rfl _ _ ha _ hL _ _ hD rfl (by rw [hz];rfl)
     ·have es:bu cb ⟨m,cx,fr,st,an,tr,en⟩=(⟨(fg m ⟨30,w,ab,ae,aa,af,aj,cc⟩ z).1,cx,fr,st,an,tr,0⟩,true):=by
       simp [bu,h0,hM,hS,hz]
      rw [es]
      refine ⟨0,Z7 6 .dead,.inl rfl,?_⟩
      simp only [We]
      exact Jl _ _ _ _ _ _ _ _ _ (hF _) _ _ _ _ _ _ _ _ _ hr rfl rfl rfl _ _ ha _ hL _ _ hD rfl (bne hz)
   have ha:=AD m op w ab ae aa af aj cc Va (Ut _ Vv) (Ut _ UR) (Ut _ VC) Vm
   have hD:=hd 0
   by_cases h2:(fg m ⟨op,w,ab,ae,aa,af,aj,cc⟩ 0).2=0
   ·have es:bu cb ⟨m,cx,fr,st,an,tr,en⟩=(⟨(fg m ⟨op,w,ab,ae,aa,af,aj,cc⟩ 0).1,cx,fr,st,an,tr,0⟩,true):=by
     simp [bu,h0,hM,Vy,UR,Vv,VC,h2]
    rw [es]
    refine ⟨0,Z7 6 .dead,.inl rfl,?_⟩
    simp only [We]
    exact Gd _ _ _ _ _ _ _ _ _ (hF _) _ _ _ _ _ _ _ _ _ hr (Ut _ Vy) (Ut _ VC) _ _ ha _ _ hD h2
   ·have es:bu cb ⟨m,cx,fr,st,an,tr,en⟩=(⟨m,cx,fr,st,an,tr,3⟩,false):=by
     simp [bu,h0,hM,Vy,UR,Vv,VC,h2]
    rw [es]
    refine ⟨0,Z7 6 .dead,.inl rfl,?_⟩
    simp only [We]
    exact zh _ _ _ _ _ _ _ _ _ (hF _) _ _ _ _ _ _ _ _ _ hr (Ut _ Vy) _ _ ha _ _ hD h2
abbrev Jd:List Nat:= [1,2,6,3,4,5,7,11]
def q1 (nx:Nat):Nat→D|0=> .dm 1 1 nx|_=> .aY .no 1 (bD [])
abbrev N8 (r nx:Nat) (cb:List Int) (e:kp) (k:Int) (w v:Nat) (dd:List Ob):List Ob:=Lq r nx cb (bD e.cx) (bD e.fr) (bD e.st) (wD e.an) (fe e.tr) e.m k w v dd
theorem SF (r nx:Nat) (hr:r=0∨r=1) (cb:List Int) (e0 e:kp) (k:Int) (w v0 v:Nat) (dd:List Ob):
  pJ Jd (N8 r nx cb e0 k w v0 []) (tS (z2 (bD e.cx) r) (q1 nx r) cb e v dd)=N8 r nx cb e k w v (dd.map (Ob.rn (gL Jd 12))):=by
 rcases hr with rfl|rfl
 ·show oR 0::aF::ay (D.jR (gL Jd 12) (bD e.cx))::ay (D.jR (gL Jd 12) (bD e.fr))::ay [aZ 1 (bD cb),zq nx 0,.dm 3 1 64,.dm 5 1 264]::ay (D.jR (gL Jd 12) (bD e.st))::aF::ay (uP e.m (wD e.an) (fe e.tr) v)::oR k:: .dD w 1:: .dD w 22:: .dD v 3::dd.map (Ob.rn (gL Jd 12))=_
  rw [eE,eE,eE]
  rfl
 ·show oR 0::aF::aF::ay (D.jR (gL Jd 12) (bD e.fr))::ay [aZ 1 (bD cb),zq nx 1,.dm 3 1 64,.dm 5 1 264]::ay (D.jR (gL Jd 12) (bD e.st))::aF::ay (uP e.m (wD e.an) (fe e.tr) v)::oR k:: .dD w 1:: .dD w 22:: .dD v 3::dd.map (Ob.rn (gL Jd 12))=_
  rw [eE,eE]
  rfl
theorem Nj (r nx:Nat) (hr:r=0∨r=1) (cb:List Int) (hb:dr cb) (hc:cb.length≤16384) (e:kp) (hx:e.cx.length=nx) (h1:r=1→nx=0) (hn:nx≤256) (hf:e.fr.length=64) (hs:e.st.length=264) (ht:e.tr.length≤100000) (k:Int) (w:Nat):
  ∃(v:Nat) (dd:List Ob),(v=0∨v=1∧(bu cb e).2=true)∧ak Z9 29 [.ptr false 7 0] (N8 r nx cb e k w 0 []) (.aL [ao (bu cb e).1.en,ax (bu cb e).2]) (N8 r nx cb (bu cb e).1 k w v dd):=by
 have hq:BF (q1 nx r) (z2 (bD e.cx) r) e.cx:=by
  rcases hr with rfl|rfl
  ·exact .inl ⟨by rw [hx];rfl,rfl⟩
  ·have:e.cx= []:=abr (hx.trans (h1 rfl))
   exact .inr ⟨by rw [this];rfl,this⟩
 have hy:z2 (bD e.cx) r= .dead∨∃i s n,q1 nx r= .dm i s n:=by
  rcases hr with rfl|rfl
  ·exact .inr ⟨_,_,_,rfl⟩
  ·exact .inl rfl
 obtain ⟨v,dd,hv,hS⟩:=Io _ _ cb hb hc e hq hy (by omega) hf hs ht
 have e1:yX (q1 nx r) (z2 (bD e.cx) r) (bu cb e).1.cx=z2 (bD (bu cb e).1.cx) r:=by rcases hr with rfl|rfl<;>rfl
 rw [e1] at hS
 have h:=hS.rn Jd (N8 r nx cb e k w 0 []) rfl (by decide) (show ∀x∈Jd,x<12 by decide) (SF r nx hr cb e e k w 0 0 [])
 rw [SF r nx hr cb e (bu cb e).1 k w 0 v dd] at h
 exact ⟨v,_,hv,h⟩
def Hn (cb:List Int):Nat→kp→List aq
  |0,_=> []
  |f+1,e=>e.m::(match bu cb e with
    |(e2,true)=>Hn cb f e2
    |(_,false)=> [])
def QQ (l:List aq):List D:=l.map fun m=> .agg (eW m)
theorem RU {m:aq} (h0:0≤m.pc) (h1:m.pc≤18446744073709551615):Rq m.pc (nD m.pc):=by
 unfold Rq nD
 simp only [bS,cI]
 rw [bN]
 by_cases p:m.pc<1048576
 ·exact .inl ⟨by omega,by rw [if_neg (by omega)]⟩
 by_cases p1:m.pc≤1064960
 ·exact .inr (.inr ⟨by omega,p1,by rw [if_pos (by omega)]⟩)
 ·exact .inr (.inl ⟨by omega,p1,by rw [if_neg (by omega)]⟩)
theorem vy (r nx:Nat) (hr:r=0∨r=1) (cb:List Int) (hb:dr cb) (hc:cb.length≤16384) (h1:r=1→nx=0) (hn:nx≤256):∀(f:Nat) (e:kp) (pl l:List D),pl.length+f≤100000→l.length+f≤100000→sF e.m→e.en=0→e.cx.length=nx→e.fr.length=64→e.st.length=264→e.tr.length+f≤100000→
  bL Z9 (cq Tryz.f13 0) 9 (L6 f pl l) (N8 r nx cb e 0 0 0 []) (.exit 0) (L6 (iA cb f e).2 (pl++iD (nA cb f e)) (l++QQ (Hn cb f e))) (N8 r nx cb (iA cb f e).1 (iA cb f e).1.en 0 0 [])
 |0,e,pl,l,_,_,Xg,h0,hx,hf,hs,ht=>by
  have:=PA r nx hr cb e.cx e.fr e.st (wD e.an) (fe e.tr) pl l e.m ((0:Nat):Int) (Int.le_refl _)
  rw [cj,cj,cj] at this
  rw [iA,nA,Hn,h0,iD,QQ,List.map_nil,List.map_nil,aba,aba]
  exact bL.last this (fun h=>by cases h)
 |f+1,e,pl,l,lp,ll,Xg,h0,hx,hf,hs,ht=>by
  have hw:abz.i64.wrap (((f+1:Nat):Int) - 1)=(f:Int):=by rw [aN];omega
  obtain ⟨v,dd,hv,hS⟩:=Nj r nx hr cb hb hc e hx h1 hn hf hs (by omega) 0 1
  have Wh:=wj cb e
  have Uy:=qQ cb e
  have XG:=Mj cb e Xg
  have hq:=RU Xg.1 Xg.2
  rw [iA,nA,Hn]
  cases T5:bu cb e with
  |mk e2 b=>
   rw [T5] at hS hv Wh Uy XG
   simp only at hS hv Wh Uy XG
   cases b with
   |true=>
    obtain ⟨t,WZ,hl⟩:=Uy.tr
    have ih:=vy r nx hr cb hb hc h1 hn f e2 (pl++ [av (nD e.m.pc)]) (l++ [.agg (eW e.m)]) (by rw [aap,abl];omega) (by rw [aap,abl];omega) XG (Wh.1 rfl) (Uy.cx.trans hx) (Uy.fr.trans hf) (Uy.st.trans hs) (by rw [WZ,aap];omega)
    have:=Q3 r nx hr cb e.cx e.fr e.st (wD e.an) (fe e.tr) pl l e.m ((f+1:Nat):Int) _ (by omega) (by omega) (by omega) e2.cx e2.fr e2.st (wD e2.an) (fe e2.tr) e2.m _ dd hq v (by rcases hv with h|⟨h,_⟩<;>omega) hS
    rw [cj,cj,cj,hw] at this
    rw [aan,aan] at ih
    exact bL.iw this ih
   |false=>
    rcases hv with rfl|⟨_,h⟩
    ·have:=Q2 r nx hr cb e.cx e.fr e.st (wD e.an) (fe e.tr) pl l e.m ((f+1:Nat):Int) _ (by omega) (by omega) (by omega) e2.cx e2.fr e2.st (wD e2.an) (fe e2.tr) e2.m _ dd hq hS
     rw [cj,cj,cj,hw] at this
     exact bL.last this (fun h=>by cases h)
    ·cases h
abbrev S0:List D:=([.jx 15,.ptr false 12 0,cF,.ptr false 14 0]++eA 31)
abbrev SZ:List D:=(eA 35)
abbrev S3 (lp:Ob) (cb:List Int) (nx:Nat) (e:kp) (left:Int):List Ob:=eS (ay [ao 0,au 0,.aY .tight 0 [],.aY .tight 0 [],av left]) (ay [.ptr false 11 0]) .dead (ay [.ptr false 0 4]) lp cb cb.length nx e 0 []
def FI (e:kp):Ex:=if e.en=0 then .exit 0 else .ret
theorem sk (cb:List Int) (hb:dr cb) (hc:cb.length≤16384) (nx:Nat) (VU:nx≤256):∀(f:Nat) (e:kp),e.en=0→e.cx.length=nx→e.fr.length=64→e.st.length=264→e.tr.length+f≤100000→
  bL Z9 (cq Tryz.f45 0) 16 S0 (S3 (.lp .ready (Z7 56 .undef) #[27,28] (dv aaR 0) (du aaR 0)) cb nx e (f:Int)) (FI (iA cb f e).1) SZ (S3 (.lp .ready (Z7 56 .undef) #[27,28] (dv aaR 0) (du aaR 0)) cb nx (iA cb f e).1 ((iA cb f e).2:Int))
 |0,e,h0,hx,hf,hs,ht=>by
  have:=Pm (bD cb) (bD e.cx) (bD e.fr) (bD e.st) (wD e.an) (fe e.tr) e.m ((0:Nat):Int) e.en cb.length nx (a7 _) (a7 _) (a7 _) (a7 _) (Int.le_refl _)
  rw [cj,cj,cj,cj] at this
  rw [iA,FI,if_pos h0]
  exact bL.last this (fun h=>by cases h)
 |f+1,e,h0,hx,hf,hs,ht=>by
  have hw:abz.i64.wrap (((f+1:Nat):Int) - 1)=(f:Int):=by rw [aN];omega
  obtain ⟨v,dd,hv,hS⟩:=zk (ay [ao 0,au 0,.aY .tight 0 [],.aY .tight 0 [],av (f:Int)]) (ay [.ptr false 11 0]) .dead (ay [.ptr false 0 4]) (.lp .ready (Z7 56 .undef) #[27,28] (dv aaR 0) (du aaR 0)) cb hb hc nx VU e hx hf hs (by omega)
  have Wh:=wj cb e
  have Uy:=qQ cb e
  rw [iA]
  cases T5:bu cb e with
  |mk e2 b=>
   rw [T5] at hS hv Wh Uy
   simp only at hS hv Wh Uy
   cases b with
   |true=>
    obtain ⟨t,WZ,hl⟩:=Uy.tr
    have ih:=sk cb hb hc nx VU f e2 (Wh.1 rfl) (Uy.cx.trans hx) (Uy.fr.trans hf) (Uy.st.trans hs) (by rw [WZ,aap];omega)
    rw [← hw] at hS
    rcases hv with rfl|⟨rfl,_⟩
    ·have:=Pk (bD cb) (bD e.cx) (bD e.fr) (bD e.st) (wD e.an) (fe e.tr) e.m ((f+1:Nat):Int) e.en cb.length nx (a7 _) (a7 _) (a7 _) (a7 _) (bD e2.cx) (bD e2.fr) (bD e2.st) (wD e2.an) (fe e2.tr) e2.m e2.en dd (a7 _) (a7 _) (a7 _) (by omega) hS
     rw [cj,cj,cj,cj,hw] at this
     exact bL.iw this ih
    ·have:=Pj (bD cb) (bD e.cx) (bD e.fr) (bD e.st) (wD e.an) (fe e.tr) e.m ((f+1:Nat):Int) e.en cb.length nx (a7 _) (a7 _) (a7 _) (a7 _) (bD e2.cx) (bD e2.fr) (bD e2.st) (wD e2.an) (fe e2.tr) e2.m e2.en dd (a7 _) (a7 _) (a7 _) (by omega) hS
     rw [cj,cj,cj,cj,hw] at this
     exact bL.iw this ih
   |false=>
    rw [← hw] at hS
    rcases hv with rfl|⟨_,h⟩
    ·have:=QS (bD cb) (bD e.cx) (bD e.fr) (bD e.st) (wD e.an) (fe e.tr) e.m ((f+1:Nat):Int) e.en cb.length nx (a7 _) (a7 _) (a7 _) (a7 _) (bD e2.cx) (bD e2.fr) (bD e2.st) (wD e2.an) (fe e2.tr) e2.m e2.en dd (a7 _) (a7 _) (a7 _) (by omega) hS
     rw [cj,cj,cj,cj,hw] at this
     simp only [FI]
     rw [if_neg (Wh.2 rfl)]
     exact bL.last this (fun h=>by cases h)
    ·cases h
def TH:aq:=⟨0,0,0,0,4194560,0,0,0,0,0,0,0,0,0,0,0,false,false,false,false,false,1048576⟩
def qj (cx an:List Int):kp:=⟨TH,cx,Z7 64 0,Z7 264 0,an,[],0⟩
abbrev Q1 (lp:Ob) (cc cx:List D) (an:List D) (f:Int):List Ob:= [ay [ao 0,au 0,.aY .tight 0 [],.aY .tight 0 [],av f],ay (vg cc.length cx.length),aF,aF,ay (cc.map D.bg),aF,aF,ay (cx.map D.bg),ay ((Z7 64 (gh (aaZ abz.u8 0))).map D.bg),ay ((Z7 264 (gh (aaZ abz.u8 0))).map D.bg),aF,ay [au 0,au 0,au 0,au 0,au 4194560,au 0,au 0,au 0,au 0,au 0,au 0,au 0,au 0,au 0,au 0,au 0,ax false,ax false,ax false,ax false,ax false,au 1048576,.ptr false 1 0,aZ 1 an,.aY (.tok 16 0) 3 [],ao 0],ay [.ptr false 11 0],aF,ay [.ptr false 0 4],lp,.dD 0 3]
abbrev SY (lp:Ob) (cb:List Int) (e:kp) (f:Int):List Ob:= [ay [ao 0,au 0,.aY .tight 0 [],.aY .tight 0 [],av f],ay (vg (bD cb).length (bD e.cx).length),aF,aF,ay (bD cb),aF,aF,ay (bD e.cx),ay (bD e.fr),ay (bD e.st),aF,ay (uC e.m (wD e.an) (fe e.tr) 0 e.en),ay [.ptr false 11 0],aF,ay [.ptr false 0 4],lp,.dD 0 3]
theorem GF (n:Nat):(Z7 n (gh (aaZ abz.u8 0))).map D.bg=bD (Z7 n 0):=by
 rw [bD,List.map_replicate,List.map_replicate];rfl
theorem P9 (cb cx an:List Int) (f:Nat) (E:kp) (lf:Nat) (hb:dr cb) (lc:(bD cb).length≤16384) (lx:(bD cx).length≤256) (hf:f≤100000) (hR:iA cb f (qj cx an)=(E,lf)):
  b5 Z9 16 (.loop (cq Tryz.f45 0)) S0 (Q1 (.lp .ready (Z7 56 .undef) #[27,28] (dv aaR 0) (du aaR 0)) (bD cb) (bD cx) (wD an) (f:Int)) (FI E) SZ (SY (.lp .ready (Z7 56 .undef) #[27,28] (dv aaR 0) (du aaR 0)) cb E (lf:Int)):=by
 have hl:=(oI cb f (qj cx an)).1
 have:=sk cb hb (by rw [aQ] at lc;exact lc) cx.length (by rw [aQ] at lx;exact lx) f (qj cx an) rfl rfl rfl rfl (by show 0+f≤100000;omega)
 rw [hR] at this hl
 have U2:E.cx.length=cx.length:=hl
 unfold Q1 SY
 rw [GF,GF,cj,cj,aQ,aQ,aQ,U2]
 exact b5.eK (by simp) this
abbrev zB (n:Nat):List D:=Z7 n (gh (aaZ abz.u8 0))
abbrev TI (an:List D):List D:= [au 0,au 0,au 0,au 0,au 4194560,au 0,au 0,au 0,au 0,au 0,au 0,au 0,au 0,au 0,au 0,au 0,ax false,ax false,ax false,ax false,ax false,au 1048576,.ptr false 4 0,aZ 1 an,.aY (.tok 11 0) 3 []]
abbrev S5 (r nx:Nat) (cb cx:List Int) (an:List D):List Ob:=oR 0::aF::z2 ((bD cx).map D.bg) r::ay ((zB 64).map D.bg)::ay [aZ 1 (bD cb),zq nx r,.dm 3 1 64,.dm 5 1 264]::ay ((zB 264).map D.bg)::aF::ay (TI an)::oR 0:: .dD 0 1:: .dD 0 22:: .dD 0 3:: []
theorem Sn (r:Nat) (hr:r=0∨r=1) (cb cx an:List Int) (f:Nat) (E:kp) (lf:Nat) (UZ:List Int) (ms:List aq) (hb:dr cb) (hc:cb.length≤16384) (h1:r=1→cx.length=0) (hx:cx.length≤256) (hf:f≤100000) (hR:iA cb f (qj cx an)=(E,lf)) (hV:nA cb f (qj cx an)=UZ) (hM:Hn cb f (qj cx an)=ms):
  b5 Z9 9 (.loop (cq Tryz.f13 0)) (L6 f [] []) (S5 r cx.length cb cx (wD an)) (.exit 0) (L6 lf (iD UZ) (QQ ms)) (N8 r cx.length cb E E.en 0 0 []):=by
 have:=vy r cx.length hr cb hb hc h1 hx f (qj cx an) [] [] (by simpa using hf) (by simpa using hf) ⟨show (0:Int)≤1048576 by decide,show (1048576:Int)≤18446744073709551615 by decide⟩ rfl rfl rfl rfl (by show 0+f≤100000;omega)
 rw [hR,hV,hM,aav,aav] at this
 unfold S5 zB
 rw [GF,GF,cj]
 exact b5.eK (by simp) this
abbrev ML (a b c d nc nx:Nat):List D:= [au 1048576,.dm a 1 nc,ax false,au 2097152,.dm b 1 nx,ax true,au 3145728,.dm c 1 64,ax true,au 4194304,.dm d 1 264,ax true]
abbrev uZ (k f:Nat) (m:aq) (an tr:List D) (v:Nat) (en:Int):List D:= [au m.q0,au m.q1,au m.q2,au m.q3,au m.q4,au m.q5,au m.q6,au m.q7,au m.q8,au m.q9,au m.cZ,au m.dj,au m.dq,au m.dp,au m.dn,au m.di,ax m.fk,ax m.fc,ax m.fz,ax m.fs,ax m.fo,au m.pc,.ptr false k 0,aZ 1 an,.aY (.tok f v) 3 tr,ao en]
abbrev pS (o0 o5 AM:Ob) (m:aq) (cc cx fr st an tr:List D) (en:Int) (nc nx v:Nat) (dd:List Ob):List Ob:=o0::aF::aF::aF::aF::o5::ay (ML 9 12 13 14 nc nx)::aF::aF::ay cc::aF::aF::ay cx::ay fr::ay st::aF::ay (uZ 6 21 m an tr v en)::AM::ay [.ptr false 16 0]::aF::ay [.ptr false 17 0]:: .dD v 3::dd
abbrev Je:List Nat:= [1,6,7,8,9,10,11,12,13,14,15,16,2,3,4,19,21]
theorem RM (o0 o5 AM:Ob) (m0 m:aq) (c0 x0 f0 s0 a0 t0:List D) (e0 en:Int) (n0 y0 v0 nc nx v:Nat) (cb cx fr st:List Int) (an tr:List D) (dd:List Ob):
  pJ Je (pS o0 o5 AM m0 c0 x0 f0 s0 a0 t0 e0 n0 y0 v0 []) (aF::ay (vg nc nx)::aF::aF::ay (bD cb)::aF::aF::ay (bD cx)::ay (bD fr)::ay (bD st)::aF::ay (uC m an tr v en)::aF::aF::aF::aF:: .dD v 3::dd)=pS o0 o5 AM m (bD cb) (bD cx) (bD fr) (bD st) an tr en nc nx v (dd.map (Ob.rn (gL Je 22))):=by
 show pS o0 o5 AM m (D.jR (gL Je 22) (bD cb)) (D.jR (gL Je 22) (bD cx)) (D.jR (gL Je 22) (bD fr)) (D.jR (gL Je 22) (bD st)) an tr en nc nx v (dd.map (Ob.rn (gL Je 22)))=_
 rw [eE,eE,eE,eE]
theorem Gj (o0 o5 AM:Ob) (cb:List Int) (hb:dr cb) (hc:cb.length≤16384) (nx:Nat) (VU:nx≤256) (e:kp) (hx:e.cx.length=nx) (hf:e.fr.length=64) (hs:e.st.length=264) (ht:e.tr.length≤100000):
  ∃(v:Nat) (dd:List Ob),(v=0∨v=1∧(bu cb e).2=true)∧ak Z9 47 [.ptr false 16 0] (pS o0 o5 AM e.m (bD cb) (bD e.cx) (bD e.fr) (bD e.st) (wD e.an) (fe e.tr) e.en cb.length nx 0 []) (ax (bu cb e).2) (pS o0 o5 AM (bu cb e).1.m (bD cb) (bD (bu cb e).1.cx) (bD (bu cb e).1.fr) (bD (bu cb e).1.st) (wD (bu cb e).1.an) (fe (bu cb e).1.tr) (bu cb e).1.en cb.length nx v dd):=by
 obtain ⟨v,dd,hv,hS⟩:=zk .dead .dead .dead .dead .dead cb hb hc nx VU e hx hf hs ht
 have h:=hS.rn Je (pS o0 o5 AM e.m (bD cb) (bD e.cx) (bD e.fr) (bD e.st) (wD e.an) (fe e.tr) e.en cb.length nx 0 []) rfl (by decide) (show ∀x∈Je,x<22 by decide) (RM o0 o5 AM _ _ _ _ _ _ _ _ _ _ _ _ _ _ _ _ _ _ _ _ _ _ [])
 have h2:=RM o0 o5 AM e.m (bu cb e).1.m (bD cb) (bD e.cx) (bD e.fr) (bD e.st) (wD e.an) (fe e.tr) e.en (bu cb e).1.en cb.length nx 0 cb.length nx v cb (bu cb e).1.cx (bu cb e).1.fr (bu cb e).1.st (wD (bu cb e).1.an) (fe (bu cb e).1.tr) dd
 rw [h2] at h
 exact ⟨v,_,hv,h⟩
theorem KA (o0 o5 AM:Ob) (cb cx fr st:List Int) (an tr:List D) (m:aq) (en:Int) (nc nx:Nat):
  ak Z9 46 [.ptr false 16 0] (pS o0 o5 AM m (bD cb) (bD cx) (bD fr) (bD st) an tr en nc nx 0 []) (av (KB m.pc)) (pS o0 o5 AM m (bD cb) (bD cx) (bD fr) (bD st) an tr en nc nx 0 []):=by
 have h1:=RM o0 o5 AM m m (bD cb) (bD cx) (bD fr) (bD st) an tr en en nc nx 0 nc nx 0 cb cx fr st an tr []
 have h:=(xU .dead .dead .dead .dead .dead (bD cb) (bD cx) (bD fr) (bD st) an tr m en nc nx).rn Je (pS o0 o5 AM m (bD cb) (bD cx) (bD fr) (bD st) an tr en nc nx 0 []) rfl (by decide) (show ∀x∈Je,x<22 by decide) h1
 rw [h1] at h
 exact h
abbrev dM (l:List D):List D:=l.map D.bg
theorem jG (b:List Int):dM (bD b)=bD b:=cj b
abbrev p6 (ga gb:Code):Ob:= .lp .ready (eA 9++ [.ptr false 0 0]++eA 26) #[18,19] ga gb
abbrev pT:List D:=([.jx 5,.ptr false 18 0,cF,.ptr false 20 0]++eA 31)
abbrev kU:List D:=(eA 35)
abbrev pZ (lp:Ob) (S:List D) (left:Int) (cc cx fr st u:List D) (nc nx v:Nat) (dd:List Ob):List Ob:= .box S::aF::aF::aF::aF::lp::ay (ML 9 12 13 14 nc nx)::aF::aF::ay cc::aF::aF::ay cx::ay fr::ay st::aF::ay u::ay [av left]::ay [.ptr false 16 0]::aF::ay [.ptr false 17 0]:: .dD v 3::dd
abbrev pP (lp:Ob) (S:List D) (left:Int) (cc cx fr st u:List D) (nc nx:Nat):List (Nat×Ob):= [(0,ay S),(5,lp),(6,ay (ML 9 12 13 14 nc nx)),(9,ay cc),(12,ay cx),(13,ay fr),(14,ay st),(16,ay u),(17,ay [av left]),(18,ay [.ptr false 16 0]),(20,ay [.ptr false 17 0]),(21,.dD 0 3)]
theorem GX (cb cx:List Int) (an:List D) (fuel:Int) (hc:cO (bD cb)=some (bD cb)) (hx:cO (bD cx)=some (bD cx)) (bb:(bD cb).all isByte=true) (bx:(bD cx).all isByte=true) (lc:(bD cb).length≤16384) (lx:(bD cx).length≤256) (f0:0≤fuel) (f1:fuel≤640064):ak Z9 23 ([aZ 1 (bD cb),aZ 1 (bD cx),aZ 1 an,av fuel]) ([]) (.aL [.ptr false 10 0,av 0]) ([ay [au 1048576,.dm 3 1 (aal ((bD cb).length:Int)),ax false,au 2097152,.dm 6 1 (aal ((bD cx).length:Int)),ax true,au 3145728,.dm 7 1 64,ax true,au 4194304,.dm 8 1 264,ax true],aF,aF,ay (bD cb),aF,aF,ay (bD cx),ay (Z7 64 (gh (aaZ abz.u8 0))),ay (Z7 264 (gh (aaZ abz.u8 0))),aF,ay [au 0,au 0,au 0,au 0,au 4194560,au 0,au 0,au 0,au 0,au 0,au 0,au 0,au 0,au 0,au 0,au 0,ax false,ax false,ax false,ax false,ax false,au 1048576,.ptr false 0 0,aZ 1 an,.aY .tight 0 [],ao 0]]):=(ak.ai (aU:= [0,3,6,7,8,10]) (d:= .aL [.ptr false 10 0,av 0]) (s':= [ay [au 1048576,.dm 3 1 (aal (↑(aaa (bD cb)):Int)),ax false,au 2097152,.dm 6 1 (aal (↑(aaa (bD cx)):Int)),ax true,au 3145728,.dm 7 1 64,ax true,au 4194304,.dm 8 1 264,ax true],aF,aF,ay (bD cb),aF,aF,ay (bD cx),ay (Z7 (64:Nat) (gh (aaZ abz.u8 (0:Int)))),ay (Z7 (264:Nat) (gh (aaZ abz.u8 (0:Int)))),aF,ay [au 0,au 0,au 0,au 0,au 4194560,au 0,au 0,au 0,au 0,au 0,au 0,au 0,au 0,au 0,au 0,au 0,ax false,ax false,ax false,ax false,ax false,au 1048576,.ptr false 0 0,aZ 1 an,.aY .tight 0 [],ao 0]]) mixed ([aO,tC (eF (dg 256 (by ((try simp only [eZ] at*);(try unfold dy at*);omega):(decide ((↑(aaa (bD cx)):Int)<(257:Int)))=true))),tC (eF (dg 256 (by ((try simp only [eZ] at*);(try unfold dy at*);omega):(decide ((↑(aaa (bD cx)):Int)<(257:Int)))=true))),tC (eF (dg 256 (by ((try simp only [eZ] at*);(try unfold dy at*);omega):(decide ((↑(aaa (bD cx)):Int)<(257:Int)))=true))),tC (dg 256 (by ((try simp only [eZ] at*);(try unfold dy at*);omega):(decide ((↑(aaa (bD cx)):Int)<(257:Int)))=true)),tC (dg 16384 (by ((try simp only [eZ] at*);(try unfold dy at*);omega):(decide ((↑(aaa (bD cb)):Int)<(16385:Int)))=true)),aO,.cX (decide ((0:Int)≤(↑(aaa (bD cb)):Int)∧(↑(aaa (bD cb)):Int)=(↑(aaa (bD cb)):Int)∧(↑(aaa (bD cb)):Int)≤(2147483648:Int))) true (by ((try simp only [eZ] at*);(try unfold dy at*);omega)),.raw,.L7 _ _ hc,tC (v:=true) (@jk (aaa (bD cb))),tC (v:=true) bb,.ej _ _ _ _ (@lI _ (aal (↑(aaa (bD cb)):Int)) (gh (aaZ abz.u8 (0:Int))) (bD cb) (by first|rfl|decide) (by first|rfl|decide)),aO,.cX (decide ((0:Int)≤(↑(aaa (bD cx)):Int)∧(↑(aaa (bD cx)):Int)=(↑(aaa (bD cx)):Int)∧(↑(aaa (bD cx)):Int)≤(2147483648:Int))) true (by ((try simp only [eZ] at*);(try unfold dy at*);omega)),.raw]++ [.L7 _ _ hx,tC (v:=true) (@jk (aaa (bD cx))),tC (v:=true) bx,.ej _ _ _ _ (@lI _ (aal (↑(aaa (bD cx)):Int)) (gh (aaZ abz.u8 (0:Int))) (bD cx) (by first|rfl|decide) (by first|rfl|decide)),tT,.raw,tT,tT,.raw,tT,tT,tF,tC (eF (bF (aah.2 f0))),tC (eF (bF (aah.2 f0))),tC (bF (aah.2 f0)),tC (dg 640064 (b8 (Int.lt_add_one_of_le f1)))]++ [aO])).cast (by rfl) (by rfl)
theorem CN (cb cx:List Int) (an:List D) (fuel:Int) (hc:cO (bD cb)=some (bD cb)) (hx:cO (bD cx)=some (bD cx)) (bb:(bD cb).all isByte=true) (bx:(bD cx).all isByte=true) (h:256<(bD cx).length):ak Z9 23 ([aZ 1 (bD cb),aZ 1 (bD cx),aZ 1 an,av fuel]) ([]) (.aL [.fW,av 2]) ([]):=(ak.ai (aU:= []) (d:= .aL [D.fW,av 2]) (s':= []) mixed ([aO,tC (eF (dg 256 (by ((try simp only [eZ] at*);(try unfold dy at*);omega):(decide ((↑(aaa (bD cx)):Int)<(257:Int)))=false))),tC (eF (dg 256 (by ((try simp only [eZ] at*);(try unfold dy at*);omega):(decide ((↑(aaa (bD cx)):Int)<(257:Int)))=false))),tC (eF (dg 256 (by ((try simp only [eZ] at*);(try unfold dy at*);omega):(decide ((↑(aaa (bD cx)):Int)<(257:Int)))=false))),tC (dg 256 (by ((try simp only [eZ] at*);(try unfold dy at*);omega):(decide ((↑(aaa (bD cx)):Int)<(257:Int)))=false))]++cr 8 201)).cast (by rfl) (by rfl)
theorem CP (cb cx:List Int) (an:List D) (fuel:Int) (hc:cO (bD cb)=some (bD cb)) (hx:cO (bD cx)=some (bD cx)) (bb:(bD cb).all isByte=true) (bx:(bD cx).all isByte=true) (lx:(bD cx).length≤256) (h:16384<(bD cb).length):ak Z9 23 ([aZ 1 (bD cb),aZ 1 (bD cx),aZ 1 an,av fuel]) ([]) (.aL [.fW,av 2]) ([]):=(ak.ai (aU:= []) (d:= .aL [D.fW,av 2]) (s':= []) mixed [aO,tC (eF (dg 256 (by ((try simp only [eZ] at*);(try unfold dy at*);omega):(decide ((↑(aaa (bD cx)):Int)<(257:Int)))=true))),tC (eF (dg 256 (by ((try simp only [eZ] at*);(try unfold dy at*);omega):(decide ((↑(aaa (bD cx)):Int)<(257:Int)))=true))),tC (eF (dg 256 (by ((try simp only [eZ] at*);(try unfold dy at*);omega):(decide ((↑(aaa (bD cx)):Int)<(257:Int)))=true))),tC (dg 256 (by ((try simp only [eZ] at*);(try unfold dy at*);omega):(decide ((↑(aaa (bD cx)):Int)<(257:Int)))=true)),tC (dg 16384 (by ((try simp only [eZ] at*);(try unfold dy at*);omega):(decide ((↑(aaa (bD cb)):Int)<(16385:Int)))=false)),tF,tF,tT,tF,tF,tT,tT]).cast (by rfl) (by rfl)
theorem CO (cb cx:List Int) (an:List D) (fuel:Int) (hc:cO (bD cb)=some (bD cb)) (hx:cO (bD cx)=some (bD cx)) (bb:(bD cb).all isByte=true) (bx:(bD cx).all isByte=true) (lc:(bD cb).length≤16384) (lx:(bD cx).length≤256) (h:fuel<0):ak Z9 23 ([aZ 1 (bD cb),aZ 1 (bD cx),aZ 1 an,av fuel]) ([]) (.aL [.fW,av 2]) ([aF,aF,aF,aF,aF,aF,aF,aF,aF]):=(ak.ai (aU:= []) (d:= .aL [D.fW,av 2]) (s':= [aF,aF,aF,aF,aF,aF,aF,aF,aF]) mixed ([aO,tC (eF (dg 256 (by ((try simp only [eZ] at*);(try unfold dy at*);omega):(decide ((↑(aaa (bD cx)):Int)<(257:Int)))=true))),tC (eF (dg 256 (by ((try simp only [eZ] at*);(try unfold dy at*);omega):(decide ((↑(aaa (bD cx)):Int)<(257:Int)))=true))),tC (eF (dg 256 (by ((try simp only [eZ] at*);(try unfold dy at*);omega):(decide ((↑(aaa (bD cx)):Int)<(257:Int)))=true))),tC (dg 256 (by ((try simp only [eZ] at*);(try unfold dy at*);omega):(decide ((↑(aaa (bD cx)):Int)<(257:Int)))=true)),tC (dg 16384 (by ((try simp only [eZ] at*);(try unfold dy at*);omega):(decide ((↑(aaa (bD cb)):Int)<(16385:Int)))=true)),aO,.cX (decide ((0:Int)≤(↑(aaa (bD cb)):Int)∧(↑(aaa (bD cb)):Int)=(↑(aaa (bD cb)):Int)∧(↑(aaa (bD cb)):Int)≤(2147483648:Int))) true (by ((try simp only [eZ] at*);(try unfold dy at*);omega)),.raw,.L7 _ _ hc,tC (v:=true) (@jk (aaa (bD cb))),tC (v:=true) bb,.ej _ _ _ _ (@lI _ (aal (↑(aaa (bD cb)):Int)) (gh (aaZ abz.u8 (0:Int))) (bD cb) (by first|rfl|decide) (by first|rfl|decide)),aO,.cX (decide ((0:Int)≤(↑(aaa (bD cx)):Int)∧(↑(aaa (bD cx)):Int)=(↑(aaa (bD cx)):Int)∧(↑(aaa (bD cx)):Int)≤(2147483648:Int))) true (by ((try simp only [eZ] at*);(try unfold dy at*);omega)),.raw]++ [.L7 _ _ hx,tC (v:=true) (@jk (aaa (bD cx))),tC (v:=true) bx,.ej _ _ _ _ (@lI _ (aal (↑(aaa (bD cx)):Int)) (gh (aaZ abz.u8 (0:Int))) (bD cx) (by first|rfl|decide) (by first|rfl|decide)),tT,.raw,tT,tT,.raw,tT,tT,tF,tC (eF (b8 h)),tC (eF (b8 h)),tC (b8 h),tT])).cast (by rfl) (by rfl)
theorem CQ (cb cx:List Int) (an:List D) (fuel:Int) (hc:cO (bD cb)=some (bD cb)) (hx:cO (bD cx)=some (bD cx)) (bb:(bD cb).all isByte=true) (bx:(bD cx).all isByte=true) (lc:(bD cb).length≤16384) (lx:(bD cx).length≤256) (h:640064<fuel):ak Z9 23 ([aZ 1 (bD cb),aZ 1 (bD cx),aZ 1 an,av fuel]) ([]) (.aL [.fW,av 2]) ([aF,aF,aF,aF,aF,aF,aF,aF,aF]):=(ak.ai (aU:= []) (d:= .aL [D.fW,av 2]) (s':= [aF,aF,aF,aF,aF,aF,aF,aF,aF]) mixed ([aO,tC (eF (dg 256 (by ((try simp only [eZ] at*);(try unfold dy at*);omega):(decide ((↑(aaa (bD cx)):Int)<(257:Int)))=true))),tC (eF (dg 256 (by ((try simp only [eZ] at*);(try unfold dy at*);omega):(decide ((↑(aaa (bD cx)):Int)<(257:Int)))=true))),tC (eF (dg 256 (by ((try simp only [eZ] at*);(try unfold dy at*);omega):(decide ((↑(aaa (bD cx)):Int)<(257:Int)))=true))),tC (dg 256 (by ((try simp only [eZ] at*);(try unfold dy at*);omega):(decide ((↑(aaa (bD cx)):Int)<(257:Int)))=true)),tC (dg 16384 (by ((try simp only [eZ] at*);(try unfold dy at*);omega):(decide ((↑(aaa (bD cb)):Int)<(16385:Int)))=true)),aO,.cX (decide ((0:Int)≤(↑(aaa (bD cb)):Int)∧(↑(aaa (bD cb)):Int)=(↑(aaa (bD cb)):Int)∧(↑(aaa (bD cb)):Int)≤(2147483648:Int))) true (by ((try simp only [eZ] at*);(try unfold dy at*);omega)),.raw,.L7 _ _ hc,tC (v:=true) (@jk (aaa (bD cb))),tC (v:=true) bb,.ej _ _ _ _ (@lI _ (aal (↑(aaa (bD cb)):Int)) (gh (aaZ abz.u8 (0:Int))) (bD cb) (by first|rfl|decide) (by first|rfl|decide)),aO,.cX (decide ((0:Int)≤(↑(aaa (bD cx)):Int)∧(↑(aaa (bD cx)):Int)=(↑(aaa (bD cx)):Int)∧(↑(aaa (bD cx)):Int)≤(2147483648:Int))) true (by ((try simp only [eZ] at*);(try unfold dy at*);omega)),.raw]++ [.L7 _ _ hx,tC (v:=true) (@jk (aaa (bD cx))),tC (v:=true) bx,.ej _ _ _ _ (@lI _ (aal (↑(aaa (bD cx)):Int)) (gh (aaZ abz.u8 (0:Int))) (bD cx) (by first|rfl|decide) (by first|rfl|decide)),tT,.raw,tT,tT,.raw,tT,tT,tF,tC (eF (lu 0 (bF (by omega:¬fuel<640065)))),tC (eF (lu 0 (bF (by omega:¬fuel<640065)))),tC (lu 0 (bF (by omega:¬fuel<640065))),tC (dg 640064 (bF (by omega:¬fuel<640065)))])).cast (by rfl) (by rfl)
theorem EO (f:Nat→Nat) (n:Nat) (k:abz) (v:Int):D.jR f (Z7 n (gh (aaZ k v)))=Z7 n (gh (aaZ k v)):=by
 rw [D.iu,List.map_replicate]
 rfl
theorem pad {P:Program} {f:FuncId} {args:List D} {s:List Ob} {d:D} {s':List Ob} (k:Nat) (h:ak P f args s d s'):ak P f args s d (s'++Z7 k .dead):=by
 refine ⟨h.Ij,by rw [aap];have:=h.len;omega,fun w0 M own w vs hw hu hr=>Calls.mono (h.run w0 M own w vs hw hu hr) ?_⟩
 rintro e w' ⟨v,M',TW,rfl,q1,q2,q3,q4⟩
 have e:bJ (s'++Z7 k .dead)=bJ s':=by
  funext i
  unfold bJ
  rw [aaf,aaf,List.getElem?_append]
  split
  ·rfl
  ·rename_i hi
   rw [List.getElem?_eq_none (by omega:s'.length≤i),List.getElem?_replicate]
   split<;>rfl
 refine ⟨v,M',TW,rfl,by rw [e];exact q1,⟨fun id hi=>q2.1 id ?_,fun id v hi=>q2.2 id v ?_⟩,q3,q4⟩
 all_goals (rw [aap] at hi;omega)
abbrev Te (cb cx:List Int) (an:List D):List Ob:= [ay [au 1048576,.dm 3 1 (aal ((bD cb).length:Int)),ax false,au 2097152,.dm 6 1 (aal ((bD cx).length:Int)),ax true,au 3145728,.dm 7 1 64,ax true,au 4194304,.dm 8 1 264,ax true],aF,aF,ay (bD cb),aF,aF,ay (bD cx),ay (Z7 64 (gh (aaZ abz.u8 0))),ay (Z7 264 (gh (aaZ abz.u8 0))),aF,ay [au 0,au 0,au 0,au 0,au 4194560,au 0,au 0,au 0,au 0,au 0,au 0,au 0,au 0,au 0,au 0,au 0,ax false,ax false,ax false,ax false,ax false,au 1048576,.ptr false 0 0,aZ 1 an,.aY .tight 0 [],ao 0]]
abbrev RD (n nc nx:Nat) (cc cx r q an:List D):List Ob:= [ay (ML (n+3) (n+6) (n+7) (n+8) nc nx),aF,aF,ay cc,aF,aF,ay cx,ay r,ay q,aF,ay [au 0,au 0,au 0,au 0,au 4194560,au 0,au 0,au 0,au 0,au 0,au 0,au 0,au 0,au 0,au 0,au 0,ax false,ax false,ax false,ax false,ax false,au 1048576,.ptr false n 0,aZ 1 an,.aY .tight 0 [],ao 0]]
theorem oK (n:Nat) (s:List Ob):∀(t:List Ob) (j:Nat),Gy [] n s t j=t
 | [],_=>rfl
 |o::t,j=>by rw [Gy,oK n s t (j+1)];rfl
theorem Fg (pre:List Ob) (n:Nat) (hn:pre.length=n) (cb cx:List Int) (an:List D) (fuel:Int) (hc:cO (bD cb)=some (bD cb)) (hx:cO (bD cx)=some (bD cx)) (bb:(bD cb).all isByte=true) (bx:(bD cx).all isByte=true) (lc:(bD cb).length≤16384) (lx:(bD cx).length≤256) (f0:0≤fuel) (f1:fuel≤640064):ak Z9 23 [aZ 1 (bD cb),aZ 1 (bD cx),aZ 1 an,av fuel] pre (.aL [.ptr false (n+10) 0,av 0]) (pre++RD n (aal ((bD cb).length:Int)) (aal ((bD cx).length:Int)) (bD cb) (bD cx) (Z7 64 (gh (aaZ abz.u8 0))) (Z7 264 (gh (aaZ abz.u8 0))) an):=by
 subst hn
 have e0:pJ [] pre []=pre:=by rw [pJ,oK];simp
 have h:=(GX cb cx an fuel hc hx bb bx lc lx f0 f1).rn [] pre rfl .nil (fun _ h=>by cases h) e0
 have e:pJ [] pre (Te cb cx an)=pre++RD pre.length (aal ((bD cb).length:Int)) (aal ((bD cx).length:Int)) (bD cb) (bD cx) (Z7 64 (gh (aaZ abz.u8 0))) (Z7 264 (gh (aaZ abz.u8 0))) an:=by
  rw [pJ,oK]
  refine congrArg (pre++ ·) ((rfl:_=RD pre.length (aal ((bD cb).length:Int)) (aal ((bD cx).length:Int)) (D.jR (gL [] pre.length) (bD cb)) (D.jR (gL [] pre.length) (bD cx)) (D.jR (gL [] pre.length) (Z7 64 (gh (aaZ abz.u8 0)))) (D.jR (gL [] pre.length) (Z7 264 (gh (aaZ abz.u8 0)))) an).trans ?_)
  rw [eE,eE,EO,EO]
 exact h.cast rfl e
theorem Np (o0 o4 o8 o9 NW fA fx fw fu NV:Ob) (cx:List Int) (nc:Nat) (lE:(bD cx).length≤256) (cE:cO (bD cx)=some (bD cx)) (bE:(bD cx).all isByte=true):ak Z9 25 ([.ptr false 1 0]) ([o0,ay (vg nc (bD cx).length),aF,aF,o4,aF,aF,ay (bD cx),o8,o9,aF,NW,fA,fx,fw,fu,NV]) (.dm 19 1 (aal ((bD cx).length:Int))) ([o0,ay (vg nc (bD cx).length),aF,aF,o4,aF,aF,ay (bD cx),o8,o9,aF,NW,fA,fx,fw,fu,NV,aF,aF,ay (bD cx)]):=(ak.ai (aU:= [0,1,2,3,4,5,6,7,8,9,10,11,12,13,14,15,16,19]) (d:= .dm 19 1 (aal (↑(aaa (bD cx)):Int))) (s':= [o0,ay [au 1048576,.dm 4 1 nc,ax false,au 2097152,.dm 7 1 (aaa (bD cx)),ax true,au 3145728,.dm 8 1 64,ax true,au 4194304,.dm 9 1 264,ax true],aF,aF,o4,aF,aF,ay (bD cx),o8,o9,aF,NW,fA,fx,fw,fu,NV,aF,aF,ay (bD cx)]) mixed [aO,tF,tT,.po ([au 1048576,.dm 4 1 nc,ax false,au 2097152,.dm 7 1 (aaa (bD cx)),ax true,au 3145728,.dm 8 1 64,ax true,au 4194304,.dm 9 1 264,ax true]) 3 3 ([au 2097152,.dm 7 1 (aaa (bD cx)),ax true]) ⟨rfl,by first|decide|simp⟩,aO,.cX (decide ((0:Int)≤(↑(aaa (bD cx)):Int)∧(↑(aaa (bD cx)):Int)=(↑(aaa (bD cx)):Int)∧(↑(aaa (bD cx)):Int)≤(2147483648:Int))) true (by ((try simp only [eZ] at*);(try unfold dy at*);omega)),.raw,.po _ _ _ _ (@A1 (bD cx) (aaa (bD cx)*(1:Nat)) (by ((try simp only [eZ] at*);(try unfold dy at*);omega))),tC (v:=true) (@jk (aaa (bD cx))),tC (v:=true) bE,.ej _ _ _ _ (@lI _ (aal (↑(aaa (bD cx)):Int)) (gh (aaZ abz.u8 (0:Int))) (bD cx) (by first|rfl|decide) (by first|rfl|decide))]).cast (by rfl) (by rfl)
theorem Nn (o0 o4 o8 o9 NW fA fx fw fu NV:Ob) (cx:List Int) (nc:Nat) (lE:(bD cx).length≤256) (cE:cO (bD cx)=some (bD cx)) (bE:(bD cx).all isByte=true):
  ak Z9 25 [.ptr false 1 0] [o0,ay (vg nc (bD cx).length),aF,aF,o4,aF,aF,ay (bD cx),o8,o9,aF,NW,fA,fx,fw,fu,NV] (aZ 1 (bD cx)) [o0,ay (vg nc (bD cx).length),aF,aF,o4,aF,aF,ay (bD cx),o8,o9,aF,NW,fA,fx,fw,fu,NV,aF,aF,aF]:=
 (Np o0 o4 o8 o9 NW fA fx fw fu NV cx nc lE cE bE).De rfl (by rw [Int.toNat_natCast]) bE
theorem Od (l:List D) (k:Nat) (hb:l.length≤1099511627776) (hk:l.length≤k):aB Z9 (cq Tryz.f49 0) ⟨[4],[],[]⟩ 0 ([aZ 1 l,aZ 1 l,cF,cF,cF,av (↑k:Int)]++eA 20) [] (Ex.exit 0) (eA 26) ([]):=(aB.ai (sp:=⟨[4],[],[]⟩) (n0:=0) (ex:=Ex.exit 0) (t':=(eA 26)) (s':= []) mixed [tC (by simp<;>omega:(decide ((↑k:Int)<(↑(aaa l):Int)))=false)]).cast (by first|rfl|(congr;rw [aN];omega)) (by first|rfl|(congr;rw [aN];omega))
theorem Rz (l:List D) (k:Nat) (hb:l.length≤1099511627776) (hk:k<l.length) (v:Int) (hx:l[k]? =some (au v)):aB Z9 (cq Tryz.f49 0) ⟨[0,1,5],[],[]⟩ 0 ([aZ 1 l,aZ 1 l,cF,cF,cF,av (↑k:Int)]++eA 20) [] .norm ([aZ 1 l,aZ 1 l,cF,cF,cF,av (↑(k+1):Int)]++eA 20) ([]):=(aB.ai (sp:=⟨[0,1,5],[],[]⟩) (n0:=0) (ex:=Ex.norm) (t':=([aZ 1 l,aZ 1 l,cF,cF,cF,av (abz.i64.wrap ((↑k:Int)+1))]++eA 20)) (s':= []) mixed [tC (by simp<;>omega:(decide ((↑k:Int)<(↑(aaa l):Int)))=true),tT,.get _ _ _ hx,tT,.get _ _ _ hx,tC (nt (beq_self_eq_true (v)))]).cast (by first|rfl|(congr;rw [aN];omega)) (by first|rfl|(congr;rw [aN];omega))
theorem Nr (l m:List D) (k:Nat) (hb:l.length≤1099511627776) (hk:l.length≤k):aB Z9 (cq Tryz.f11 0) ⟨[4],[],[]⟩ 0 ([aZ 3 l,aZ 3 m,cF,cF,cF,av (↑k:Int)]++eA 21) [] (Ex.exit 0) (eA 27) ([]):=(aB.ai (sp:=⟨[4],[],[]⟩) (n0:=0) (ex:=Ex.exit 0) (t':=(eA 27)) (s':= []) mixed [tC (by simp<;>omega:(decide ((↑k:Int)<(↑(aaa l):Int)))=false)]).cast (by first|rfl|(congr;rw [aN];omega)) (by first|rfl|(congr;rw [aN];omega))
theorem Q7 (l m:List D) (k:Nat) (hb:l.length≤1099511627776) (hk:k<l.length) (n s:Int) (a:List Int) (hx:l[k]? =some (.agg [av n,aZ 1 (wD a),au s])) (hy:m[k]? =some (.agg [av n,aZ 1 (wD a),au s])) (km:k<m.length) (he:aP Z9 26 [.agg [av n,aZ 1 (wD a),au s],.agg [av n,aZ 1 (wD a),au s]] (ax true)):aB Z9 (cq Tryz.f11 0) ⟨[0,1,5],[],[]⟩ 0 ([aZ 3 l,aZ 3 m,cF,cF,cF,av (↑k:Int)]++eA 21) [] .norm ([aZ 3 l,aZ 3 m,cF,cF,cF,av (↑(k+1):Int)]++eA 21) ([]):=(aB.ai (sp:=⟨[0,1,5],[],[]⟩) (n0:=0) (ex:=Ex.norm) (t':=([aZ 3 l,aZ 3 m,cF,cF,cF,av (abz.i64.wrap ((↑k:Int)+1))]++eA 21)) (s':= []) mixed [tC (by simp<;>omega:(decide ((↑k:Int)<(↑(aaa l):Int)))=true),tT,.get _ _ _ hx,tT,.get _ _ _ hy,aw he,tF]).cast (by first|rfl|(congr;rw [aN];omega)) (by first|rfl|(congr;rw [aN];omega))
theorem I4 (l:List Int) (hb:l.length≤1099511627776):∀(n k:Nat),n+k=l.length→
  bL Z9 (cq Tryz.f49 0) 0 ([aZ 1 (wD l),aZ 1 (wD l),cF,cF,cF,av (k:Int)]++eA 20) [] (.exit 0) (eA 26) []:=by
 intro n
 induction n with
 |zero=>
  intro k hk
  exact bL.last (Od (wD l) k (by simpa [wD] using hb) (by simp [wD];omega)) (by simp)
 |succ n ih=>
  intro k hk
  have hx:l[k]? =some l[k]:=by simp
  exact bL.iw (Rz (wD l) k (by simpa [wD] using hb) (by simp [wD];omega) l[k] (by simp [wD,hx])) (ih (k+1) (by omega))
theorem P4 (l:List Int) (hb:(wD l).length≤1099511627776):
  b5 Z9 0 (.loop (cq Tryz.f49 0)) ([aZ 1 (wD l),aZ 1 (wD l),cF,cF,cF,av 0]++eA 20) [] (.exit 0) (eA 26) []:=
 b5.eK (by decide) (I4 l (by simpa [wD] using hb) l.length 0 (by omega))
theorem BJ (l:List Int) (hb:(wD l).length≤1099511627776):aP Z9 49 ([aZ 1 (wD l),aZ 1 (wD l)]) (ax true):=by
 have c0:= @P4 (l) hb
 exact (aP.ai (d:= .bool true) mixed Tryz.func49 (by kernel_rfl) [tC (nt (beq_self_eq_true ((↑(aaa (wD l)):Int)))),.head ⟨[0,1,5],[],[]⟩ _ _ _ _ _ _ _ c0]).to (by simp [wk])
theorem Ng (n s:Int) (a:List Int) (hb:(wD a).length≤1099511627776):aP Z9 26 ([.agg [av n,aZ 1 (wD a),au s],.agg [av n,aZ 1 (wD a),au s]]) (ax true):=by
 have c0:= @BJ (a) hb
 exact (aP.ai (d:= .bool true) mixed Tryz.func26 (by kernel_rfl) [tC (eT (beq_self_eq_true (n))),tC (eT (beq_self_eq_true (n))),tC (eT (beq_self_eq_true (n))),tC (eT (beq_self_eq_true (n))),tC (eT (beq_self_eq_true (n))),tC (beq_self_eq_true (n)),tC (eT (beq_self_eq_true (s))),tC (eT (beq_self_eq_true (s))),tC (eT (beq_self_eq_true (s))),tC (eT (beq_self_eq_true (s))),tC (eT (beq_self_eq_true (s))),aw c0,tC (beq_self_eq_true (s))]).to (by simp [wk])
def tZ (l:List Et):Prop:= ∀e∈l,e.args.length≤5
theorem II (p t:List Et) (ho:tZ p) (hb:p.length≤1099511627776):∀(n k:Nat),n+k=p.length→
  bL Z9 (cq Tryz.f11 0) 0 ([aZ 3 (fe p),aZ 3 (fe (p++t)),cF,cF,cF,av (k:Int)]++eA 21) [] (.exit 0) (eA 27) []:=by
 intro n
 induction n with
 |zero=>
  intro k hk
  exact bL.last (Nr (fe p) (fe (p++t)) k (by simpa [fe] using hb) (by simp [fe];omega)) (by simp)
 |succ n ih=>
  intro k hk
  have ZJ:k<p.length:=by omega
  have hx:p[k]? =some p[k]:=by simp
  have hy:(p++t)[k]? =some p[k]:=by rw [List.getElem?_append_left ZJ];exact hx
  have ha:(wD p[k].args).length≤1099511627776:=by
   have:=ho p[k] (List.getElem_mem ZJ)
   simp [wD];omega
  exact bL.iw (Q7 (fe p) (fe (p++t)) k (by simpa [fe] using hb) (by simp [fe];omega) p[k].num p[k].Ta p[k].args (get_map (f:=Et.d) hx) (get_map (f:=Et.d) hy) (by simp [fe];omega) (Ng _ _ _ ha)) (ih (k+1) (by omega))
theorem PJ (p t:List Et) (ho:tZ p) (hb:(fe p).length≤1099511627776):
  b5 Z9 0 (.loop (cq Tryz.f11 0)) ([aZ 3 (fe p),aZ 3 (fe (p++t)),cF,cF,cF,av 0]++eA 21) [] (.exit 0) (eA 27) []:=
 b5.eK (by decide) (II p t ho (by simpa [fe] using hb) p.length 0 (by omega))
theorem Nq (p:List Et) (ho:tZ p) (hb:(fe p).length≤1099511627776):
  b5 Z9 0 (.loop (cq Tryz.f11 0)) ([aZ 3 (fe p),aZ 3 (fe p),cF,cF,cF,av 0]++eA 21) [] (.exit 0) (eA 27) []:=by
 have:=PJ p [] ho hb
 rw [aba] at this
 exact this
theorem Bu (p:List Et) (ho:tZ p) (hb:(fe p).length≤1099511627776):aP Z9 11 ([aZ 3 (fe p),aZ 3 (fe p)]) (ax true):=by
 have c0:= @Nq (p) ho hb
 exact (aP.ai (d:= .bool true) mixed Tryz.func11 (by kernel_rfl) [tC (by ((try simp only [aap,List.length_cons,List.length_nil,aN,bS,cI,cz,ki,fO] at*);omega):(decide ((↑(aaa (fe p)):Int)>(↑(aaa (fe p)):Int)))=false),.head ⟨[0,1,5],[],[]⟩ _ _ _ _ _ _ _ c0]).to (by simp [wk])
abbrev JG (cb cx an:List Int) (f:Nat):kp×Nat:=iA cb f (qj cx an)
def EW (e:kp):Int:=if e.en=1 then e.m.q0 else 0
abbrev Rr (r:kp×Nat):D:= .aL [.agg [ao r.1.en,au (EW r.1),aZ 1 (bD r.1.cx),aZ 3 (fe r.1.tr),av (r.2:Int)],av 0]
theorem wz (cb cx an:List Int) (f:Nat) (hb:dr cb) (lc:cb.length≤16384) (lx:cx.length≤256) (hf:f≤100000):
  aP Z9 10 [aZ 1 (bD cb),aZ 1 (bD cx),aZ 1 (wD an),av (f:Int)] (Rr (iA cb f (qj cx an))):=by
 have hl:=(oI cb f (qj cx an)).1
 cases hR':iA cb f (qj cx an) with
 |mk E lf=>
 rw [hR'] at hl
 have U2:E.cx.length=cx.length:=hl
 have ZM:(bD cb).length≤16384:=by rw [aQ];exact lc
 have Z4:(bD cx).length≤256:=by rw [aQ];exact lx
 have lE:(bD E.cx).length≤256:=by rw [aQ,U2];exact lx
 have hO:=Fg [ay [ao 0,au 0,.aY .tight 0 [],.aY .tight 0 [],av 0]] 1 rfl cb cx (wD an) f (eu _) (eu _) (cD _) (cD _) ZM Z4 (by omega) (by omega)
 have c0:=P9 cb cx an f E lf hb ZM Z4 hf hR'
 have hC:=Nn (ay [ao 0,au 0,.aY .tight 0 [],.aY .tight 0 [],av lf]) (ay (bD cb)) (ay (bD E.fr)) (ay (bD E.st)) (ay (uC E.m (wD E.an) (fe E.tr) 0 E.en)) (ay [.ptr false 11 0]) .dead (ay [.ptr false 0 4]) .dead (.dD 0 3) E.cx (bD cb).length lE (eu _) (cD _)
 have hz:∀n,∀c∈Z7 n (gh (aaZ abz.u8 0)),c.clean=true:=fun n c h=>by rw [List.eq_of_mem_replicate h];rfl
 have ex:(FI E= .exit 0∧(E.en==1)=false∧EW E=0)∨(FI E= .ret∧(E.en==1)=true∧EW E=E.m.q0)∨(FI E= .ret∧(E.en==1)=false∧EW E=0):=by
  unfold FI EW
  by_cases h:E.en=0
  ·exact .inl ⟨if_pos h,by rw [h];rfl,if_neg (by omega)⟩
  by_cases h1:E.en=1
  ·exact .inr (.inl ⟨if_neg h,by rw [h1];rfl,if_pos h1⟩)
  ·exact .inr (.inr ⟨if_neg h,by simpa using h1,if_neg h1⟩)
 unfold Rr
 clear hR'
 rcases ex with ⟨e,g,e2⟩|⟨e,g,e2⟩|⟨e,g,e2⟩<;>rw [e] at c0<;>rw [e2]<;>exact aP.ai mixed Tryz.func10 (by kernel_rfl) [.aH _ _ _ _ _ hO,tF,aO,.NR [],.head ⟨[0,1,3],[0,1,11,12,14,15,1000004,1000007,1000008,1000009],[(1011024,3)]⟩ _ _ _ _ _ _ _ c0,.cl _ (a7 cb),.cl _ (a7 cx),.cl _ (hz 64),.cl _ (hz 264),.aH _ _ _ _ _ hC,.aU [(0,ay [ao 0,au 0,.aY .tight 0 [],.aY .tight 0 [],av lf]),(11,ay (uC E.m (wD E.an) (fe E.tr) 0 E.en))],tC g] (by kernel_rfl)
theorem Oj:aP Z9 10 [aZ 1 [aC 184,aC 5,aC 0,aC 0,aC 0,aC 195],.aY .tight 0 [],.aY .tight 0 [],av 9] (.aL [.agg [ao 1,au 5,aZ 1 [],aZ 3 [],av 7],av 0]):=by
 have h:=wz [184,5,0,0,0,195] [] [] 9 (by simp [dr]) (by decide) (by decide) (by decide)
 have e1:(JG [184,5,0,0,0,195] [] [] 9).1.en=1:=by kernel_rfl
 have e2:(JG [184,5,0,0,0,195] [] [] 9).1.m.q0=5:=by kernel_rfl
 have e3:(JG [184,5,0,0,0,195] [] [] 9).1.cx= []:=by kernel_rfl
 have e4:(JG [184,5,0,0,0,195] [] [] 9).1.tr= []:=by kernel_rfl
 have e5:(JG [184,5,0,0,0,195] [] [] 9).2=7:=by kernel_rfl
 have e6:EW (JG [184,5,0,0,0,195] [] [] 9).1=5:=by unfold EW;rw [if_pos e1,e2]
 unfold Rr at h
 rw [e1,e3,e4,e5,e6] at h
 exact h.args (by simp [wk,bf,cB,bD,wD])
theorem Oi:aP Z9 10 [.aY .tight 0 [],.aY .tight 0 [],.aY .tight 0 [],av 9] (.aL [.agg [ao 3,au 0,aZ 1 [],aZ 3 [],av 8],av 0]):=by
 have h:=wz [] [] [] 9 (by simp [dr]) (by decide) (by decide) (by decide)
 have e1:(JG [] [] [] 9).1.en=3:=by kernel_rfl
 have e3:(JG [] [] [] 9).1.cx= []:=by kernel_rfl
 have e4:(JG [] [] [] 9).1.tr= []:=by kernel_rfl
 have e5:(JG [] [] [] 9).2=8:=by kernel_rfl
 have e6:EW (JG [] [] [] 9).1=0:=by unfold EW;rw [e1];rfl
 unfold Rr at h
 rw [e1,e3,e4,e5,e6] at h
 exact h.args (by simp [wk,bf,cB,bD,wD])
theorem JD:aP Z9 10 [aZ 1 [aC 184,aC 5,aC 0,aC 0,aC 0,aC 195],.aY .tight 0 [],.aY .tight 0 [],av 9] (.aL [.agg [ao 1,au 5,aZ 1 [],aZ 3 [],av 7],av 0]):=Oj
theorem JC:aP Z9 10 [.aY .tight 0 [],.aY .tight 0 [],.aY .tight 0 [],av 9] (.aL [.agg [ao 3,au 0,aZ 1 [],aZ 3 [],av 8],av 0]):=Oi
theorem PK (l:List Int):∀d∈bD l,∃k:Int,d= .int .u8 k:=fun d h=>by
 obtain ⟨k,_,rfl⟩:=List.mem_map.1 h
 exact ⟨k,rfl⟩
theorem Gx:aP Z9 20 [] (.agg [au 0,au 0,au 0,au 0,au 4194560,au 0,au 0,au 0,au 0,au 0,au 0,au 0,au 0,au 0,au 0,au 0,ax false,ax false,ax false,ax false,ax false,au 1048576]):=
 aP.ai mixed Tryz.func20 (by kernel_rfl) [] (by kernel_rfl)
def rO (cx:List Int):Nat:=if cx.length=0 then 1 else 0
theorem So (p0:Ob) (cb cx:List Int) (lc:cb.length≤16384) (lx:cx.length≤256):
  ak Z9 28 [aZ 1 (bD cx),aZ 1 (bD cb),ax true] [p0] (.aL [.ptr false 4 0,av 0]) [p0,aF,z2 (bD cx) (rO cx),ay (zB 64),ay [aZ 1 (bD cb),zq cx.length (rO cx),.dm 3 1 64,.dm 5 1 264],ay (zB 264)]:=by
 have gx:decide (((bD cx).length:Int)>256)=false:=bF (by rw [aQ];omega)
 have gc:decide (((bD cb).length:Int)>16384)=false:=bF (by rw [aQ];omega)
 have hA:=m4 cb (eu _) (cD _) (by rw [aQ];exact lc)
 unfold rO
 by_cases h:cx.length=0
 ·rw [if_pos h]
  obtain rfl:cx= []:=abr h
  have hB:=m4 [] (eu _) (cD _) (by simp [bD])
  exact ak.ai (aU:=aao 6) mixed [tC (eF gx),tC (eF gx),tC (eF gx),tC gx,tC gc,aw hA,aw hB,tT,.raw,tT,tT,.raw] (by kernel_rfl)
 ·rw [if_neg h]
  have hB:=Gp cx (eu _) (cD _) (by rw [aQ];omega) (by rw [aQ,Nat.blt_eq];omega)
  rw [aQ] at hB
  exact ak.ai (aU:=aao 6) mixed [tC (eF gx),tC (eF gx),tC (eF gx),tC gx,tC gc,aw hA,.LB _ _ _ _ hB (PK cx),.raw,tT,.raw,tT,tT,.raw] (by kernel_rfl)
abbrev Q4 (r nx:Nat) (cb:List Int) (e:kp) (k r0:Int):List Ob:= [oR 0,aF,z2 (bD e.cx) r,ay (bD e.fr),ay [aZ 1 (bD cb),zq nx r,.dm 3 1 64,.dm 5 1 264],ay (bD e.st),aF,ay (uP e.m (wD e.an) (fe e.tr) 0),ay [ao k,au r0,.aY .tight 0 [],.aY .tight 0 [],av 0],.dD 0 1,.dD 0 22,.dD 0 3]
abbrev Jf:List Nat:= [1,2,6,3,4,5]
theorem SG (r nx:Nat) (hr:r=0∨r=1) (cb:List Int) (e:kp) (k r0:Int) (ex:List Ob):
  pJ Jf (Q4 r nx cb e k r0) (dS .dead (z2 (bD e.cx) r) (q1 nx r) cb e.fr e.st++ex)=Q4 r nx cb e k r0++ex.map (Ob.rn (gL Jf 12)):=by
 rcases hr with rfl|rfl
 ·show [oR 0,aF,ay (D.jR (gL Jf 12) (bD e.cx)),ay (D.jR (gL Jf 12) (bD e.fr)),ay [aZ 1 (bD cb),zq nx 0,.dm 3 1 64,.dm 5 1 264],ay (D.jR (gL Jf 12) (bD e.st)),aF,ay (uP e.m (wD e.an) (fe e.tr) 0),ay [ao k,au r0,.aY .tight 0 [],.aY .tight 0 [],av 0],.dD 0 1,.dD 0 22,.dD 0 3]++ex.map (Ob.rn (gL Jf 12))=_
  rw [eE,eE,eE]
  rfl
 ·show [oR 0,aF,aF,ay (D.jR (gL Jf 12) (bD e.fr)),ay [aZ 1 (bD cb),zq nx 1,.dm 3 1 64,.dm 5 1 264],ay (D.jR (gL Jf 12) (bD e.st)),aF,ay (uP e.m (wD e.an) (fe e.tr) 0),ay [ao k,au r0,.aY .tight 0 [],.aY .tight 0 [],av 0],.dD 0 1,.dD 0 22,.dD 0 3]++ex.map (Ob.rn (gL Jf 12))=_
  rw [eE,eE]
  rfl
theorem PE (r nx:Nat) (hr:r=0∨r=1) (cb:List Int) (e:kp) (hx:e.cx.length=nx) (h1:r=1→nx=0) (hn:nx≤256) (k r0:Int):ak Z9 30 [.ptr false 4 0] (Q4 r nx cb e k r0) (aZ 1 (bD e.cx)) (Q4 r nx cb e k r0++ [aF]):=by
 have hq:BF (q1 nx r) (z2 (bD e.cx) r) e.cx:=by
  rcases hr with rfl|rfl
  ·exact .inl ⟨by rw [hx];rfl,rfl⟩
  ·have:e.cx= []:=abr (hx.trans (h1 rfl))
   exact .inr ⟨by rw [this];rfl,this⟩
 have h:=(PF .dead _ _ cb e.cx e.fr e.st hq (by omega)).rn Jf (Q4 r nx cb e k r0) rfl (by decide) (show ∀x∈Jf,x<12 by decide) (by have:=SG r nx hr cb e k r0 [];simpa using this)
 rw [SG r nx hr cb e k r0 [aF]] at h
 exact h
theorem Gg (cb cx an:List Int) (f:Nat) (E:kp) (lf:Nat) (UZ:List Int) (ms:List aq) (hb:dr cb) (hc:cb.length≤16384) (hx:cx.length≤256) (hf:f≤100000) (hR:iA cb f (qj cx an)=(E,lf)) (hV:nA cb f (qj cx an)=UZ) (hM:Hn cb f (qj cx an)=ms):
  aP Z9 13 [aZ 1 (bD cb),aZ 1 (bD cx),aZ 1 (wD an),av f] (.aL [aZ 1 (iD UZ),aZ 22 (QQ ms),.agg [ao E.en,au (EW E),aZ 1 (bD E.cx),aZ 3 (fe E.tr),av lf],av 0]):=by
 have hr:rO cx=0∨rO cx=1:=by unfold rO;split<;>simp
 have h1:rO cx=1→cx.length=0:=by unfold rO;split<;>simp_all
 have hE:E.cx.length=cx.length:=by have:=(oI cb f (qj cx an)).1;rw [hR] at this;exact this
 have c0:=Sn (rO cx) hr cb cx an f E lf UZ ms hb hc h1 hx hf hR hV hM
 have hN:=So (oR 0) cb cx hc hx
 have hC:=PE (rO cx) cx.length hr cb E hE h1 hx E.en (EW E)
 have g0:decide ((f:Int)<0)=false:=bF (by omega)
 have g1:decide ((f:Int)>640064)=false:=bF (by omega)
 have gx:decide (((bD cx).length:Int)>256)=false:=bF (by rw [aQ];omega)
 have gc:decide (((bD cb).length:Int)>16384)=false:=bF (by rw [aQ];omega)
 have hz:∀n,∀c∈zB n,c.clean=true:=fun n c h=>by rw [List.eq_of_mem_replicate h];rfl
 generalize hmm:QQ ms=mm at c0
 clear hR hV hM hmm
 by_cases he:E.en=1
 ·have hq:(E.en==1)=true:=by rw [he];rfl
  rw [EW,if_pos he] at hC ⊢
  generalize rO cx=r at hr h1 c0 hN hC
  rcases hr with rfl|rfl
  ·exact (aP.ai (d:= .aL [.aY (.fresh 1) 1 (iD UZ),.aY (.fresh 22) 22 mm,.agg [ao E.en,au E.m.q0,aZ 1 (bD E.cx),aZ 3 (fe E.tr),av lf],av 0]) mixed Tryz.func13 (by kernel_rfl) [tC (eF g0),tC (eF g0),tC g0,tC (eF g1),tC (eF g1),tC (eF g1),tC g1,tC (eF gx),tC (eF gx),tC (eF gx),tC gx,tC gc,.aH _ _ _ _ _ hN,aw Gx,.head (Pw 0) _ _ _ _ _ _ _ c0,.cl _ (a7 cx),.cl _ (hz 64),.cl _ (hz 264),tC hq,.aH _ _ _ _ _ hC]).to (by simp [wk,bf,cB])
  ·exact (aP.ai (d:= .aL [.aY (.fresh 1) 1 (iD UZ),.aY (.fresh 22) 22 mm,.agg [ao E.en,au E.m.q0,aZ 1 (bD E.cx),aZ 3 (fe E.tr),av lf],av 0]) mixed Tryz.func13 (by kernel_rfl) [tC (eF g0),tC (eF g0),tC g0,tC (eF g1),tC (eF g1),tC (eF g1),tC g1,tC (eF gx),tC (eF gx),tC (eF gx),tC gx,tC gc,.aH _ _ _ _ _ hN,aw Gx,.head (Pw 1) _ _ _ _ _ _ _ c0,.cl _ (hz 64),.cl _ (hz 264),tC hq,.aH _ _ _ _ _ hC]).to (by simp [wk,bf,cB])
 ·have hq:(E.en==1)=false:=by rw [fO];exact he
  rw [EW,if_neg he] at hC ⊢
  generalize rO cx=r at hr h1 c0 hN hC
  rcases hr with rfl|rfl
  ·exact (aP.ai (d:= .aL [.aY (.fresh 1) 1 (iD UZ),.aY (.fresh 22) 22 mm,.agg [ao E.en,au 0,aZ 1 (bD E.cx),aZ 3 (fe E.tr),av lf],av 0]) mixed Tryz.func13 (by kernel_rfl) [tC (eF g0),tC (eF g0),tC g0,tC (eF g1),tC (eF g1),tC (eF g1),tC g1,tC (eF gx),tC (eF gx),tC (eF gx),tC gx,tC gc,.aH _ _ _ _ _ hN,aw Gx,.head (Pw 0) _ _ _ _ _ _ _ c0,.cl _ (a7 cx),.cl _ (hz 64),.cl _ (hz 264),tC hq,.aH _ _ _ _ _ hC]).to (by simp [wk,bf,cB])
  ·exact (aP.ai (d:= .aL [.aY (.fresh 1) 1 (iD UZ),.aY (.fresh 22) 22 mm,.agg [ao E.en,au 0,aZ 1 (bD E.cx),aZ 3 (fe E.tr),av lf],av 0]) mixed Tryz.func13 (by kernel_rfl) [tC (eF g0),tC (eF g0),tC g0,tC (eF g1),tC (eF g1),tC (eF g1),tC g1,tC (eF gx),tC (eF gx),tC (eF gx),tC gx,tC gc,.aH _ _ _ _ _ hN,aw Gx,.head (Pw 1) _ _ _ _ _ _ _ c0,.cl _ (hz 64),.cl _ (hz 264),tC hq,.aH _ _ _ _ _ hC]).to (by simp [wk,bf,cB])
abbrev LW (S:List D):List Ob:= [aF,aF,ay S]
abbrev Rk (vs:List D) (i:Int):List D:=(eA 9++ [aZ 1 vs,cF,cF,cF,.dm 2 1 16386,av i]++eA 44)
abbrev SB:List D:=(eA 13++ [.dm 2 1 16386]++eA 45)
abbrev Rj (o:List D) (i:Int):List D:=(eA 13++ [.dm 2 1 16386,cF,.aY (.tok 3 0) 1 o,av i]++eA 42)
abbrev SA (o:List D):List D:=(eA 15++ [.aY (.tok 3 0) 1 o]++eA 43)
abbrev SR:HS:=⟨[9,13,14],[1000002],[]⟩
abbrev SQ:HS:=⟨[13,16],[1000002],[(15,1)]⟩
section
variable (l:List Bool) (lS:(jw l).length=16386)
theorem OT (vs:List D) (i:Nat) (h:vs.length≤i):aB Z9 (cq Tryz.f17 0) ⟨[13],[1000002],[]⟩ 3 (Rk vs i) (LW (jw l)) (.exit 0) SB (LW ((jw l).map D.bg)):=
 aB.ai mixed [tC (bF (by omega):decide ((i:Int)<(vs.length:Int))=false),.cl _ (fF l)] (by kernel_rfl)
include lS in
theorem Qs (vs:List D) (i:Nat) (h:i<vs.length) (v:Int) (hv:vs[i]? =some (av v)) (v0: -1≤v) (v1:v≤16384):aB Z9 (cq Tryz.f17 0) SR 3 (Rk vs i) (LW (jw l)) .norm (Rk vs (abz.i64.wrap ((i:Int)+1))) (LW ((jw (l.set (kB v*1) true)).map D.bg)):=by
 have e:(jw l).set (aal (abz.i64.wrap (v+1))*1) (ax true)=jw (l.set (kB v*1) true):=EJ l _
 have c:=e▸fF (l.set (kB v*1) true)
 rw [← e]
 have p:=na (l:=jw l) (i:=aal (abz.i64.wrap (v+1))*1) (x:= .bool true) (by rw [lS,aN];omega)
 exact aB.ai mixed [tC (b8 (by omega):decide ((i:Int)<(vs.length:Int))=true),tT,.get _ _ _ hv,.cX (decide ((0:Int)≤abz.i64.wrap (v+1)∧abz.i64.wrap (v+1)<((16386:Nat):Int))) true (by rw [aN];exact b8 (by omega)),.ej _ _ _ _ p,.raw,.cl _ c] (by kernel_rfl)
theorem OS (o:List D) (i:Nat) (h:16386≤i):aB Z9 (cq Tryz.f17 1) ⟨[],[],[(15,1)]⟩ 3 (Rj o i) (LW (jw l)++ [.dD 0 1]) (.exit 2) (SA o) [aF,aF,aF,.dD 0 1]:=
 aB.ai mixed [tC (bF (by omega):decide ((i:Int)<(16386:Int))=false)] (by kernel_rfl)
theorem Qr (o:List D) (i:Nat) (h:i<16386) (lo:o.length≤100000) (b:Bool) (hv:l[i]? =some b):aB Z9 (cq Tryz.f17 1) SQ 3 (Rj o i) (LW (jw l)++ [.dD 0 1]) .norm (Rj (if b=true then o++ [av (abz.i64.wrap ((i:Int) - 1))] else o) (abz.i64.wrap ((i:Int)+1))) (LW ((jw l).map D.bg)++ [.dD 0 1]):=by
 have g:decide ((i:Int)<(16386:Int))=true:=b8 (by omega)
 have t:decide ((0:Int)≤(i:Int)∧(i:Int)<((16386:Nat):Int))=true:=b8 (by omega)
 have q:(jw l)[i*1]? =some (ax b):=by rw [Nat.mul_one];exact wu hv
 have n:o.length+1≤2147483648:=by omega
 cases b
 ·exact aB.ai mixed [tC g,.cX _ true t,.get _ _ _ q,tF,.cl _ (fF l)] (by kernel_rfl)
 ·exact aB.ai mixed [tC g,.cX _ true t,.get _ _ _ q,tT,.len _ _ n,.cl _ (fF l)] (by kernel_rfl)
end
theorem uQ (V:List Int) (hV:∀x∈V,-1≤x∧x≤16384) (hn:V.length≤100000):∀(n k:Nat) (l:List Bool),n+k=V.length→l.length=16386→
  bL Z9 (cq Tryz.f17 0) 3 (Rk (iD V) k) (LW (jw l)) (.exit 0) SB (LW (jw (jI (V.drop k) l)))
 |0,k,l,hk,hl=>by
  rw [List.drop_of_length_le (by omega),jI]
  have:=OT l (iD V) k (by rw [p7];omega)
  rw [gE] at this
  exact bL.last this (fun h=>by cases h)
 |n+1,k,l,hk,hl=>by
  have T1:k<V.length:=by omega
  have hx:(iD V)[k]? =some (av V[k]):=KW (by simp)
  have hb:=hV V[k] (List.getElem_mem T1)
  have hd:V.drop k=V[k]::V.drop (k+1):=(List.getElem_cons_drop ..).symm
  have hw:abz.i64.wrap ((k:Int)+1)=((k+1:Nat):Int):=by rw [aN];omega
  rw [hd,jI]
  have:=Qs l (by rw [rq];exact hl) (iD V) k (by rw [p7];omega) _ hx hb.1 hb.2
  rw [gE,Nat.mul_one,hw] at this
  exact bL.iw this (uQ V hV hn n (k+1) _ (by omega) (by rw [List.length_set];exact hl))
theorem pM (l:List Bool) (hl:l.length=16386):∀(n k:Nat) (o:List Int),n+k=16386→o.length≤k→
  bL Z9 (cq Tryz.f17 1) 3 (Rj (iD o) k) (LW (jw l)++ [.dD 0 1]) (.exit 2) (SA (iD (o++mF k (l.drop k)))) [aF,aF,aF,.dD 0 1]
 |0,k,o,hk,_=>by
  rw [List.drop_of_length_le (by omega),mF,aba]
  exact bL.last (OS l (iD o) k (by omega)) (fun h=>by cases h)
 |n+1,k,o,hk,ho=>by
  have T1:k<l.length:=by omega
  have hd:l.drop k=l[k]::l.drop (k+1):=(List.getElem_cons_drop ..).symm
  have hw:abz.i64.wrap ((k:Int)+1)=((k+1:Nat):Int):=by rw [aN];omega
  have:=Qr l (iD o) k (by omega) (by rw [p7];omega) l[k] (by simp)
  rw [gE,hw,show abz.i64.wrap ((k:Int) - 1)=(k:Int) - 1 by rw [aN];omega] at this
  rw [hd]
  cases hb:l[k] with
  |true=>
   rw [hb,if_pos rfl,show iD o++ [D.int .i64 ((k:Int) - 1)]=iD (o++ [(k:Int) - 1]) by rw [KX];rfl] at this
   have ih:=pM l hl n (k+1) (o++ [(k:Int) - 1]) (by omega) (by simp;omega)
   rw [aan] at ih
   rw [mF]
   exact bL.iw this ih
  |false=>
   rw [hb,if_neg (by decide)] at this
   rw [mF]
   exact bL.iw this (pM l hl n (k+1) o (by omega) (by omega))
abbrev oX (k r0:Int) (c p:List D) (l:Int):D:= .agg [ao k,au r0,aZ 1 c,aZ 3 p,av l]
section
variable (cb cx an V M:List D) (f k r0 l:Int) (c p:List D)
theorem Nk (hs:aP Z9 13 [aZ 1 cb,aZ 1 cx,aZ 1 an,av f] (.aL [aZ 1 V,aZ 22 M,oX k r0 c p l,av 0])):aP Z9 15 [aZ 1 cb,aZ 1 cx,aZ 1 an,av f] (.aL [oX k r0 c p l,av 0]):=
 aP.ai mixed Tryz.func15 (by kernel_rfl) [aw hs] (by kernel_rfl)
theorem PB (hs:aP Z9 13 [aZ 1 cb,aZ 1 cx,aZ 1 an,av f] (.aL [.aY .tight 0 [],.aY .tight 0 [],.agg [ao 0,au 0,.aY .tight 0 [],.aY .tight 0 [],av 0],av 2])):aP Z9 15 [aZ 1 cb,aZ 1 cx,aZ 1 an,av f] (.aL [.agg [ao 0,au 0,.aY .tight 0 [],.aY .tight 0 [],av 0],av 2]):=
 aP.ai mixed Tryz.func15 (by kernel_rfl) [aw hs] (by kernel_rfl)
theorem PC (hs:aP Z9 13 [aZ 1 cb,aZ 1 cx,aZ 1 an,av f] (.aL [.aY .tight 0 [],.aY .tight 0 [],.agg [ao 0,au 0,.aY .tight 0 [],.aY .tight 0 [],av 0],av 2])):aP Z9 17 [aZ 1 cb,aZ 1 cx,aZ 1 an,av f] (aZ 1 []):=
 (aP.ai (d:= .aY .tight 0 []) mixed Tryz.func17 (by kernel_rfl) [aw hs,tT]).to (by simp [wk,bf,cB])
end
theorem Ov (cb cx an:List Int) (f:Int) (h:f<0∨640064<f∨256<(bD cx).length∨16384<(bD cb).length):aP Z9 13 [aZ 1 (bD cb),aZ 1 (bD cx),aZ 1 (wD an),av f] (.aL [.aY .tight 0 [],.aY .tight 0 [],.agg [ao 0,au 0,.aY .tight 0 [],.aY .tight 0 [],av 0],av 2]):=by
 by_cases h0:f<0
 ·have g0:decide (f<0)=true:=b8 h0
  exact (aP.ai mixed Tryz.func13 (by kernel_rfl) ([tC (eF g0),tC (eF g0),tC g0]++cr 9 392) (by kernel_rfl))
 have g0:decide (f<0)=false:=bF h0
 by_cases h1:f>640064
 ·have g1:=b8 h1
  exact (aP.ai mixed Tryz.func13 (by kernel_rfl) [tC (eF g0),tC (eF g0),tC g0,tC (eF g1),tC (eF g1),tC (eF g1),tC g1,tF,tF,tF,tT,tT] (by kernel_rfl))
 have g1:=bF h1
 by_cases h2:((bD cx).length:Int)>256
 ·have g2:=b8 h2
  exact (aP.ai mixed Tryz.func13 (by kernel_rfl) [tC (eF g0),tC (eF g0),tC g0,tC (eF g1),tC (eF g1),tC (eF g1),tC g1,tC (eF g2),tC (eF g2),tC (eF g2),tC g2,tT] (by kernel_rfl))
 have g2:=bF h2
 have g3:decide (((bD cb).length:Int)>16384)=true:=b8 (by omega)
 exact (aP.ai mixed Tryz.func13 (by kernel_rfl) [tC (eF g0),tC (eF g0),tC g0,tC (eF g1),tC (eF g1),tC (eF g1),tC g1,tC (eF g2),tC (eF g2),tC (eF g2),tC g2,tC g3] (by kernel_rfl))
theorem Sp (n:Nat):∀c∈Z7 n (gh (Value.bool false)),c.clean=true:=fun c h=>by rw [List.eq_of_mem_replicate h];rfl
theorem RO (n:Nat):(Z7 n (gh (Value.bool false))).map D.bg=jw (Z7 n false):=by
 rw [jw,List.map_replicate,List.map_replicate];rfl
theorem Nl (cb cx an M:List D) (V:List Int) (f k r0 l:Int) (c p:List D) (hV:∀x∈V,-1≤x∧x≤16384) (hn:V.length≤100000) (hs:aP Z9 13 [aZ 1 cb,aZ 1 cx,aZ 1 an,av f] (.aL [aZ 1 (iD V),aZ 22 M,oX k r0 c p l,av 0])):aP Z9 17 [aZ 1 cb,aZ 1 cx,aZ 1 an,av f] (aZ 1 (iD (xJ V))):=by
 have c0:=b5.eK (by simp) (uQ V hV hn V.length 0 (Z7 16386 false) rfl (by rw [aa4]))
 have c1:=b5.eK (by simp) (pM (jI V (Z7 16386 false)) (by rw [mZ,aa4]) 16386 0 [] rfl (Nat.le_refl _))
 rw [← RO,aa0] at c0
 rw [aa0,aav] at c1
 have hS:=fF (jI V (Z7 16386 false))
 have e:=gE (jI V (Z7 16386 false))
 rw [show mF 0 (jI V (Z7 16386 false))=xJ V from rfl] at c1
 generalize jw (jI V (Z7 16386 false))=S at c0 c1 hS e
 rw [← e] at c1
 exact (aP.ai (d:= .aY (.fresh 1) 1 (iD (xJ V))) mixed Tryz.func17 (by kernel_rfl) [aw hs,tF,tT,.raw,.head SR _ _ _ _ _ _ _ c0,.cl _ (Sp 16386),.head SQ _ _ _ _ _ _ _ c1,.cl _ hS]).to (by simp [wk,bf,cB])
end Go.Proofs.YtbfpahigdpigpaaGreat
