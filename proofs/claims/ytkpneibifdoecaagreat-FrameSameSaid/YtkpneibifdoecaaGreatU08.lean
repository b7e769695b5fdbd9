import Derived.Deep.Slices
import Derived.ChangeArms
import Derived.OpenShut
import Derived.Test.YtkpneibifdoecaaGreatU07
open List renaming length_append→Vd,getElem?_eq_none→Vw,getElem?_map→VC,getElem?_eq_getElem→V3
open Option.some renaming inj→Vk,injEq→Vs
open Nat renaming lt_or_ge→VA,beq_eq→VJ,beq→VM
/- Contracts and plain laws that a statement's proof leans on (texts merged:EvV). -/
set_option linter.unusedVariables false
set_option linter.unusedSimpArgs false
namespace Go.Ev
open Go Go.RowKit Go.ChangeShapes Go.WideShapes Go.Deep
def lZ (P:Program) (g:TypeId→Option (List LK)):Nat→List Field→Option (List LK)
  |_,[]=>some []
  |off,f::r=>match g f.type with
    |some ks=>match VM f.offset off&&VM ks.length (P.cellsOf f.type) with
      |true=>match lZ P g (off+ks.length) r with
        |some l=>some (ks++l)
        |none=>none
      |false=>none
    |none=>none
def AL:Nat→List LK→List LK
  |0,_=> []
  |n+1,ks=>ks++AL n ks
def nW (P:Program):Nat→TypeId→Option (List LK)
  |0,_=>none
  |n+1,t=>match P.underlying t with
    |some .bool=>some [.bool]
    |some (.int k)=>some [.int k]
    |some (.struct fs)=>match lZ P (nW P n) 0 fs.toList with
      |some ks=>match VM ks.length (P.cellsOf t) with|true=>some ks|false=>none
      |none=>none
    |some (.array m e)=>match nW P n e with
      |some ks=>match VM ks.length (P.cellsOf e)&&VM (m*ks.length) (P.cellsOf t) with|true=>some (AL m ks)|false=>none
      |none=>none
    |_=>none
theorem uJ (ks:List LK):∀n,(AL n ks).length=n*ks.length
 |0=>by simp [AL]
 |n+1=>by rw [AL,Vd,uJ ks n,Nat.succ_mul];omega
theorem jB:∀ {a b:List Value} {x y:List D},gz a=some x→gz b=some y→gz (a++b)=some (x++y)
 | [],b,x,y,h,k=>by
  simp only [gz,Vs] at h;subst h;exact k
 |v::r,b,x,y,h,k=>by
  rw [gz] at h
  split at h
  ·rename_i d l h1 h2
   obtain rfl:=Vk h
   rw [List.cons_append,gz,h1,jB h2 k]
   rfl
  ·cases h
theorem iw:∀ {a b:List LK} {x y:List D},nS a x→nS b y→nS (a++b) (x++y)
 | [],b,x,y,h,k=>by
  simp only [nS] at h;subst h;exact k
 | .bool::r,b,x,y,⟨q,l,e,h⟩,k=>by
  subst e
  exact ⟨q,l++y,rfl,iw h k⟩
 | .int kd::r,b,x,y,⟨n,l,e,hn,h⟩,k=>by
  subst e
  exact ⟨n,l++y,rfl,hn,iw h k⟩
 | .str::r,b,x,y,⟨n,l,e,hn,h⟩,k=>by
  subst e
  exact ⟨n,l++y,rfl,hn,iw h k⟩
section
variable {H:Type} {enc:TypeId×Value→H} {P:Program} {w:World} {base:Nat} {spare:Nat→Bool} {held:Bool}
theorem nX {g:TypeId→Option (List LK)} {cs:List Value}
  (ih:∀(t:TypeId) (ks:List LK) (fuel:Nat) (cs:List Value) (x:DataW H×List MemPlace),g t=some ks→DataW.trod enc P w base spare held fuel t cs=some x→∃ds:List D,gz cs=some ds∧nS ks ds∧cs.length=ks.length):
  ∀(r:List Field) (off:Nat) (ks:List LK),lZ P g off r=some ks→(∀f∈r,∃fuel x,DataW.trod enc P w base spare held fuel f.type ((cs.drop f.offset).take (P.cellsOf f.type))=some x)→off+ks.length=cs.length→
  ∃ds:List D,gz (cs.drop off)=some ds∧nS ks ds
 | [],off,ks,h,_,hl=>by
  simp only [lZ,Vs] at h
  subst h
  rw [List.drop_eq_nil_of_le (by simp at hl;omega)]
  exact ⟨[],rfl,rfl⟩
 |f::r,off,ks,h,hf,hl=>by
  rw [lZ] at h
  cases hg:g f.type with
  |none=>rw [hg] at h;simp at h
  |some k1=>
   rw [hg] at h
   simp only at h
   cases hb:(VM f.offset off&&VM k1.length (P.cellsOf f.type)) with
   |false=>rw [hb] at h;simp at h
   |true=>
    rw [hb] at h
    simp only at h
    rw [Bool.and_eq_true,VJ,VJ] at hb
    obtain ⟨e1,e2⟩:=hb
    cases hr:lZ P g (off+k1.length) r with
    |none=>rw [hr] at h;simp at h
    |some k2=>
     rw [hr] at h
     obtain rfl:=Vk h
     obtain ⟨fuel,x,ht⟩:=hf f (List.mem_cons_self ..)
     obtain ⟨d1,s1,o1,l1⟩:=ih _ _ _ _ _ hg ht
     obtain ⟨d2,s2,o2⟩:=nX ih r (off+k1.length) k2 hr (fun f' T0=>hf f' (List.mem_cons_of_mem _ T0)) (by rw [← hl,Vd];omega)
     refine ⟨d1++d2,?_,iw o1 o2⟩
     have e:cs.drop off=(cs.drop off).take k1.length++cs.drop (off+k1.length):=by
      rw [← List.drop_drop,List.take_append_drop]
     rw [e]
     refine jB ?_ s2
     rw [e1,← e2] at s1
     exact s1
theorem p3 (ks:List LK) (sz:Nat):∀(m:Nat) (cs:List Value),cs.length=m*sz→(∀i,i<m→∃ds:List D,gz ((cs.drop (i*sz)).take sz)=some ds∧nS ks ds)→∃ds:List D,gz cs=some ds∧nS (AL m ks) ds
 |0,cs,hl,_=>by
  have:cs= []:=List.eq_nil_of_length_eq_zero (by simpa using hl)
  subst this
  exact ⟨[],rfl,rfl⟩
 |m+1,cs,hl,h=>by
  obtain ⟨d1,s1,o1⟩:=h 0 (by omega)
  rw [Nat.zero_mul,List.drop_zero] at s1
  obtain ⟨d2,s2,o2⟩:=p3 ks sz m (cs.drop sz) (by rw [List.length_drop,hl,Nat.succ_mul];omega) (fun i hi=>by
   have:=h (i+1) (by omega)
   rw [Nat.succ_mul,Nat.add_comm,← List.drop_drop] at this
   exact this)
  refine ⟨d1++d2,?_,iw o1 o2⟩
  have:=jB s1 s2
  rwa [List.take_append_drop] at this
theorem nx:∀(n:Nat) (t:TypeId) (ks:List LK) (fuel:Nat) (cs:List Value) (x:DataW H×List MemPlace),nW P n t=some ks→DataW.trod enc P w base spare held fuel t cs=some x→
  ∃ds:List D,gz cs=some ds∧nS ks ds∧cs.length=ks.length
 |0,t,ks,fuel,cs,x,h,_=>by simp [nW] at h
 |n+1,t,ks,fuel,cs,x,h,ht=>by
  rw [nW] at h
  split at h
  ·rename_i hu
   obtain rfl:=Vk h
   obtain ⟨b,rfl,_⟩:=DataW.trod_bool hu ht
   exact ⟨[.bool b],rfl,⟨b,[],rfl,rfl⟩,rfl⟩
  ·rename_i k hu
   obtain rfl:=Vk h
   obtain ⟨m,rfl,_,hw⟩:=DataW.trod_int hu ht
   refine ⟨[.int k m],rfl,⟨m,[],rfl,?_,rfl⟩,rfl⟩
   simpa [Lit.wf,IntKind.has] using hw
  ·rename_i fs hu
   cases hg:lZ P (nW P n) 0 fs.toList with
   |none=>rw [hg] at h;simp at h
   |some k1=>
    rw [hg] at h
    simp only at h
    cases hb:VM k1.length (P.cellsOf t) with
    |false=>rw [hb] at h;simp at h
    |true=>
     rw [hb] at h
     obtain rfl:=Vk h
     rw [VJ] at hb
     obtain ⟨xs,n',_,_,hl,Sv,hf⟩:=DataW.trod_struct hu ht
     have:=nX (cs:=cs) (nx n) fs.toList 0 k1 hg (by
      intro f T0
      obtain ⟨i,hi,e⟩:=List.getElem_of_mem T0
      have e2:fs[i]? =some f:=by
       rw [← Array.getElem?_toList,V3 hi,e]
      have Tq:=hf i f e2
      have Uo:i<xs.length:=by rw [Sv];simpa using hi
      rw [V3 Uo] at Tq
      exact ⟨n',xs[i],Tq⟩) (by rw [hb,hl];omega)
     obtain ⟨ds,h1,h2⟩:=this
     exact ⟨ds,by simpa using h1,h2,by rw [hl,hb]⟩
  ·rename_i m e hu
   cases hg:nW P n e with
   |none=>rw [hg] at h;simp at h
   |some k1=>
    rw [hg] at h
    simp only at h
    cases hb:(VM k1.length (P.cellsOf e)&&VM (m*k1.length) (P.cellsOf t)) with
    |false=>rw [hb] at h;simp at h
    |true=>
     rw [hb] at h
     obtain rfl:=Vk h
     rw [Bool.and_eq_true,VJ,VJ] at hb
     obtain ⟨xs,n',_,_,hl,Sv,hf⟩:=DataW.trod_array hu ht
     obtain ⟨ds,h1,h2⟩:=p3 k1 (P.cellsOf e) m cs (by rw [hl,← hb.2,hb.1]) (fun i hi=>by
      have Tq:=hf i hi
      have Uo:i<xs.length:=by omega
      rw [V3 Uo] at Tq
      obtain ⟨ds,s1,o1,_⟩:=nx n e k1 n' _ _ hg Tq
      exact ⟨ds,s1,o1⟩)
     exact ⟨ds,h1,h2,by rw [hl,uJ,hb.2]⟩
  ·cases h
theorem Ce {a:Addr} {x y:Nat} {v:Value} (h:w.cell? ((a.add x).add y)=some v):w.cell? ⟨a.block,a.off+x+y,none⟩=some v:=by
 obtain ⟨b,o,sp⟩:=a
 unfold Addr.add at h
 unfold World.cell? at h ⊢
 by_cases hx:x=0
 ·by_cases hy:y=0
  ·subst hx hy
   simp only [if_true] at h
   simp only [Nat.add_zero]
   cases sp with
   |none=>exact h
   |some q=>split at h<;>simp at h
  ·subst hx
   simp only [if_true,if_neg hy] at h
   simpa using h
 ·by_cases hy:y=0
  ·subst hy
   simp only [if_true,if_neg hx] at h
   simpa using h
  ·simp only [if_neg hx,if_neg hy] at h
   simpa using h
theorem mu:∀ {ks:List LK} {ds:List D},nS ks ds→∀c∈ds,storable c=true
 | [],ds,h,c,hc=>by simp only [nS] at h;subst h;simp at hc
 | .bool::r,ds,⟨q,l,e,h⟩,c,hc=>by
  subst e
  rcases List.mem_cons.mp hc with rfl|hc
  ·rfl
  ·exact mu h c hc
 | .int k::r,ds,⟨n,l,e,_,h⟩,c,hc=>by
  subst e
  rcases List.mem_cons.mp hc with rfl|hc
  ·rfl
  ·exact mu h c hc
 | .str::r,ds,⟨n,l,e,_,h⟩,c,hc=>by
  subst e
  rcases List.mem_cons.mp hc with rfl|hc
  ·rfl
  ·exact mu h c hc
theorem uA {t e:TypeId} {ks:List LK} {v:Value} {fuel:Nat} {x:DataW H×List MemPlace} (mk:List D→D) (QC:∀ds,nS ks ds→(mk ds).cells=some ds) (hs:P.underlying t=some (.slice e)) (hk:nW P 10 e=some ks) (OT:P.cellsOf e=ks.length) (Ut:ks.length≠0)
  (h:DataW.trod enc P w base spare held fuel t [v]=some x):
  ∃xs:List (List D),(∀ds∈xs,nS ks ds)∧(xs.length:Int)≤9223372036854775807∧bo (ep (rP w)) (.aj .no ks.length (xs.map mk)) v:=by
 rcases open_slice hs h with ⟨h0,_⟩|⟨a,len,cap,m,n,D',Pl,OJ,hb,hl,hm,hmm,hx,hi⟩
 ·obtain rfl:=(List.cons.inj h0).1
  refine ⟨[],by simp,by simp,?_⟩
  exact .aj 0 0 (fun _ _=> .nilFunc) rfl (Nat.le_refl _) (by simp) (by simp) (by simp) (by simp) (by simp) trivial
 ·obtain rfl:=(List.cons.inj OJ).1
  have hlm:len≤m:=by rw [hmm];split<;>omega
  have hex:∀i,∃ds:List D,i<len→∃Ph,w.cells? base (a.add (i*P.cellsOf e)) (P.cellsOf e)=some Ph∧gz Ph=some ds∧nS ks ds:=by
   intro i
   by_cases OK:i<len
   ·obtain ⟨Ph,h1,h2⟩:=hi i (by omega)
    obtain ⟨ds,s1,o1,_⟩:=nx 10 e ks n Ph _ hk h2
    exact ⟨ds,fun _=>⟨Ph,h1,s1,o1⟩⟩
   ·exact ⟨[],fun q=>absurd q OK⟩
  obtain ⟨F,hF⟩:=Classical.axiomOfChoice hex
  have Sg:∀i,i<len→(F i).length=ks.length:=by
   intro i OK
   obtain ⟨Ph,h1,h2,h3⟩:=hF i OK
   rw [(mm (M:=ep (rP w)) h2).1,(World.cells?_some h1).2.1,OT]
  have PO:∀(i:Nat) (y:D),((List.range len).map F|>.map mk)[i]? =some y→i<len∧y=mk (F i):=by
   intro i y hy
   rw [VC,VC,Option.map_eq_some_iff] at hy
   obtain ⟨q,hq,rfl⟩:=hy
   rw [Option.map_eq_some_iff] at hq
   obtain ⟨j,hj,rfl⟩:=hq
   have QZ:i<len:=by
    rcases VA i len with q|q
    ·exact q
    ·rw [Vw (by simpa using q)] at hj;cases hj
   rw [List.getElem?_range QZ] at hj
   obtain rfl:=Vk hj
   exact ⟨QZ,rfl⟩
  have Pa:∀(i:Nat) (y:D) (cs:List D) (j:Nat) (c:D),((List.range len).map F|>.map mk)[i]? =some y→y.cells=some cs→cs[j]? =some c→∃v',w.cell? ⟨a.block,a.off+i*ks.length+j,none⟩=some v'∧∀M,bo M c v':=by
   intro i y cs j c hy hc hj
   obtain ⟨QZ,rfl⟩:=PO i y hy
   obtain ⟨Ph,h1,h2,h3⟩:=hF i QZ
   rw [QC _ h3] at hc
   obtain rfl:=Vk hc
   have Qr:j<ks.length:=by
    rw [← Sg i QZ]
    rcases VA j (F i).length with q|q
    ·exact q
    ·rw [Vw q] at hj;cases hj
   obtain ⟨_,Px,Rg⟩:=World.cells?_some h1
   have hv:=Rg j (by rw [OT];exact Qr)
   have Tk:j<Ph.length:=by rw [Px,OT];exact Qr
   rw [V3 Tk] at hv
   refine ⟨Ph[j],by rw [OT] at hv;exact Ce hv,fun M=> ?_⟩
   exact (mm (M:=M) h2).2 j c _ hj (V3 Tk)
  refine ⟨(List.range len).map F,?_,?_,?_⟩
  ·intro ds U2
   rw [List.mem_map] at U2
   obtain ⟨i,hi',rfl⟩:=U2
   exact (hF i (by simpa using hi')).choose_spec.2.2
  ·have:maxLen=9223372036854775807:=rfl
   simp only [List.length_map,List.length_range]
   omega
  ·refine .aj a.block a.off (fun i j=>(w.cell? ⟨a.block,a.off+i*ks.length+j,none⟩).getD .nilFunc) (by simp) (by omega) ?_ ?_ ?_ ?_ ?_ trivial
   ·intro O0
    have Rp:0<len:=by
     rcases Nat.eq_zero_or_pos len with q|q
     ·subst q;simp at O0
     ·exact q
    obtain ⟨Ph,h1,h2,h3⟩:=hF 0 Rp
    have hk0:=Ut
    ·obtain ⟨_,Px,Rg⟩:=World.cells?_some h1
     have hv:=Rg 0 (by rw [OT];omega)
     have RG:0<Ph.length:=by rw [Px,OT];omega
     rw [V3 RG] at hv
     obtain ⟨b,o,sp⟩:=a
     cases sp with
     |none=>rfl
     |some q=>
      exfalso
      unfold World.cell? Addr.add at hv
      simp only [Nat.zero_mul,if_true] at hv
      split at hv<;>simp at hv
   ·intro i y hy
    obtain ⟨QZ,rfl⟩:=PO i y hy
    obtain ⟨Ph,h1,h2,h3⟩:=hF i QZ
    exact ⟨F i,QC _ h3,Sg i QZ⟩
   ·intro i y cs j c hy hc hj
    obtain ⟨v',h1,_⟩:=Pa i y cs j c hy hc hj
    show w.cell? ⟨a.block,a.off+i*ks.length+j,none⟩=_
    rw [h1];rfl
   ·intro i y cs j c hy hc hj
    obtain ⟨v',h1,h2⟩:=Pa i y cs j c hy hc hj
    rw [h1]
    exact h2 _
   ·intro i y cs c hy hc hj
    obtain ⟨QZ,rfl⟩:=PO i y hy
    obtain ⟨Ph,h1,h2,h3⟩:=hF i QZ
    rw [QC _ h3] at hc
    obtain rfl:=Vk hc
    exact mu h3 c hj
theorem uq:∀ {ts:List TypeId} {vs:List Value} {ds:List (DataW H)} {ps:List MemPlace},DataW.TrodAll enc P w base spare held ts vs ds ps→∀(i:Nat) (t:TypeId) (v:Value),ts[i]? =some t→vs[i]? =some v→∃(fuel:Nat) (x:DataW H×List MemPlace),DataW.trod enc P w base spare held fuel t v.cells.toList=some x
 | [],vs,ds,ps,h,i,t,v,ht,_=>by simp at ht
 |t0::ts,vs,ds,ps,h,i,t,v,ht,hv=>by
  obtain ⟨v0,vs',d,TN,p,q,rfl,rfl,rfl,h1,h2⟩:=trodAll_cons h
  cases i with
  |zero=>
   simp only [List.getElem?_cons_zero,Vs] at ht hv
   subst ht hv
   obtain ⟨fuel,hf⟩:=h1
   exact ⟨fuel,_,hf⟩
  |succ i=>
   simp only [List.getElem?_cons_succ] at ht hv
   exact uq h2 i t v ht hv
end
end Go.Ev
