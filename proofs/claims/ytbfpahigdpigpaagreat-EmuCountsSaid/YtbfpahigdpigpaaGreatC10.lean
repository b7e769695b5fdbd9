import Derived.Deep.Slices
import Derived.ChangeArms
import Derived.OpenShut
import Derived.Test.YtbfpahigdpigpaaGreatC09
open Option.some renaming inj→SE,injEq→SL
open List renaming range→SI,getElem?_eq_none→SN,length_append→SS,getElem?_map→SW,getElem?_eq_getElem→Th
open Nat renaming lt_or_ge→SY,beq_eq→S8,beq→Ta
/- Contracts and plain laws that a statement's proof leans on (texts merged:EvV). -/
set_option linter.unusedVariables false
set_option linter.unusedSimpArgs false
namespace Go.Ev
open Go Go.RowKit Go.ChangeShapes Go.WideShapes Go.Deep
def mK (P:Program) (g:TypeId→Option (List LK)):Nat→List Field→Option (List LK)
  |_,[]=>some []
  |off,f::r=>match g f.type with
    |some ks=>match Ta f.offset off&&Ta ks.length (P.cellsOf f.type) with
      |true=>match mK P g (off+ks.length) r with
        |some l=>some (ks++l)
        |none=>none
      |false=>none
    |none=>none
def BB:Nat→List LK→List LK
  |0,_=> []
  |n+1,ks=>ks++BB n ks
def oW (P:Program):Nat→TypeId→Option (List LK)
  |0,_=>none
  |n+1,t=>match P.underlying t with
    |some .bool=>some [.bool]
    |some (.int k)=>some [.int k]
    |some (.struct fs)=>match mK P (oW P n) 0 fs.toList with
      |some ks=>match Ta ks.length (P.cellsOf t) with|true=>some ks|false=>none
      |none=>none
    |some (.array m e)=>match oW P n e with
      |some ks=>match Ta ks.length (P.cellsOf e)&&Ta (m*ks.length) (P.cellsOf t) with|true=>some (BB m ks)|false=>none
      |none=>none
    |_=>none
theorem wz (ks:List LK):∀n,(BB n ks).length=n*ks.length
 |0=>by simp [BB]
 |n+1=>by rw [BB,SS,wz ks n,Nat.succ_mul];omega
theorem j5:∀ {a b:List Value} {x y:List D},iI a=some x→iI b=some y→iI (a++b)=some (x++y)
 | [],b,x,y,h,k=>by
  simp only [iI,SL] at h;subst h;exact k
 |v::r,b,x,y,h,k=>by
  rw [iI] at h
  split at h
  ·rename_i d l h1 h2
   obtain rfl:=SE h
   rw [List.cons_append,iI,h1,j5 h2 k]
   rfl
  ·cases h
theorem iZ:∀ {a b:List LK} {x y:List D},nk a x→nk b y→nk (a++b) (x++y)
 | [],b,x,y,h,k=>by
  simp only [nk] at h;subst h;exact k
 | .bool::r,b,x,y,⟨q,l,e,h⟩,k=>by
  subst e
  exact ⟨q,l++y,rfl,iZ h k⟩
 | .int kd::r,b,x,y,⟨n,l,e,hn,h⟩,k=>by
  subst e
  exact ⟨n,l++y,rfl,hn,iZ h k⟩
 | .str::r,b,x,y,⟨n,l,e,hn,h⟩,k=>by
  subst e
  exact ⟨n,l++y,rfl,hn,iZ h k⟩
section
variable {H:Type} {enc:TypeId×Value→H} {P:Program} {w:World} {base:Nat} {spare:Nat→Bool} {held:Bool}
theorem oX {g:TypeId→Option (List LK)} {cs:List Value}
  (ih:∀(t:TypeId) (ks:List LK) (fuel:Nat) (cs:List Value) (x:DataW H×List MemPlace),g t=some ks→DataW.trod enc P w base spare held fuel t cs=some x→∃ds:List D,iI cs=some ds∧nk ks ds∧cs.length=ks.length):
  ∀(r:List Field) (off:Nat) (ks:List LK),mK P g off r=some ks→(∀f∈r,∃fuel x,DataW.trod enc P w base spare held fuel f.type ((cs.drop f.offset).take (P.cellsOf f.type))=some x)→off+ks.length=cs.length→
  ∃ds:List D,iI (cs.drop off)=some ds∧nk ks ds
 | [],off,ks,h,_,hl=>by
  simp only [mK,SL] at h
  subst h
  rw [List.drop_eq_nil_of_le (by simp at hl;omega)]
  exact ⟨[],rfl,rfl⟩
 |f::r,off,ks,h,hf,hl=>by
  rw [mK] at h
  cases hg:g f.type with
  |none=>rw [hg] at h;simp at h
  |some k1=>
   rw [hg] at h
   simp only at h
   cases hb:(Ta f.offset off&&Ta k1.length (P.cellsOf f.type)) with
   |false=>rw [hb] at h;simp at h
   |true=>
    rw [hb] at h
    simp only at h
    rw [Bool.and_eq_true,S8,S8] at hb
    obtain ⟨e1,e2⟩:=hb
    cases hr:mK P g (off+k1.length) r with
    |none=>rw [hr] at h;simp at h
    |some k2=>
     rw [hr] at h
     obtain rfl:=SE h
     obtain ⟨fuel,x,ht⟩:=hf f (List.mem_cons_self ..)
     obtain ⟨d1,s1,o1,l1⟩:=ih _ _ _ _ _ hg ht
     obtain ⟨d2,s2,o2⟩:=oX ih r (off+k1.length) k2 hr (fun f' RI=>hf f' (List.mem_cons_of_mem _ RI)) (by rw [← hl,SS];omega)
     refine ⟨d1++d2,?_,iZ o1 o2⟩
     have e:cs.drop off=(cs.drop off).take k1.length++cs.drop (off+k1.length):=by
      rw [← List.drop_drop,List.take_append_drop]
     rw [e]
     refine j5 ?_ s2
     rw [e1,← e2] at s1
     exact s1
theorem rp (ks:List LK) (sz:Nat):∀(m:Nat) (cs:List Value),cs.length=m*sz→(∀i,i<m→∃ds:List D,iI ((cs.drop (i*sz)).take sz)=some ds∧nk ks ds)→∃ds:List D,iI cs=some ds∧nk (BB m ks) ds
 |0,cs,hl,_=>by
  have:cs= []:=List.eq_nil_of_length_eq_zero (by simpa using hl)
  subst this
  exact ⟨[],rfl,rfl⟩
 |m+1,cs,hl,h=>by
  obtain ⟨d1,s1,o1⟩:=h 0 (by omega)
  rw [Nat.zero_mul,List.drop_zero] at s1
  obtain ⟨d2,s2,o2⟩:=rp ks sz m (cs.drop sz) (by rw [List.length_drop,hl,Nat.succ_mul];omega) (fun i hi=>by
   have:=h (i+1) (by omega)
   rw [Nat.succ_mul,Nat.add_comm,← List.drop_drop] at this
   exact this)
  refine ⟨d1++d2,?_,iZ o1 o2⟩
  have:=j5 s1 s2
  rwa [List.take_append_drop] at this
theorem oz:∀(n:Nat) (t:TypeId) (ks:List LK) (fuel:Nat) (cs:List Value) (x:DataW H×List MemPlace),oW P n t=some ks→DataW.trod enc P w base spare held fuel t cs=some x→
  ∃ds:List D,iI cs=some ds∧nk ks ds∧cs.length=ks.length
 |0,t,ks,fuel,cs,x,h,_=>by simp [oW] at h
 |n+1,t,ks,fuel,cs,x,h,ht=>by
  rw [oW] at h
  split at h
  ·rename_i hu
   obtain rfl:=SE h
   obtain ⟨b,rfl,_⟩:=DataW.trod_bool hu ht
   exact ⟨[.bool b],rfl,⟨b,[],rfl,rfl⟩,rfl⟩
  ·rename_i k hu
   obtain rfl:=SE h
   obtain ⟨m,rfl,_,hw⟩:=DataW.trod_int hu ht
   refine ⟨[.int k m],rfl,⟨m,[],rfl,?_,rfl⟩,rfl⟩
   simpa [Lit.wf,IntKind.has] using hw
  ·rename_i fs hu
   cases hg:mK P (oW P n) 0 fs.toList with
   |none=>rw [hg] at h;simp at h
   |some k1=>
    rw [hg] at h
    simp only at h
    cases hb:Ta k1.length (P.cellsOf t) with
    |false=>rw [hb] at h;simp at h
    |true=>
     rw [hb] at h
     obtain rfl:=SE h
     rw [S8] at hb
     obtain ⟨xs,n',_,_,hl,hxl,hf⟩:=DataW.trod_struct hu ht
     have:=oX (cs:=cs) (oz n) fs.toList 0 k1 hg (by
      intro f RI
      obtain ⟨i,hi,e⟩:=List.getElem_of_mem RI
      have e2:fs[i]? =some f:=by
       rw [← Array.getElem?_toList,Th hi,e]
      have QT:=hf i f e2
      have Rw:i<xs.length:=by rw [hxl];simpa using hi
      rw [Th Rw] at QT
      exact ⟨n',xs[i],QT⟩) (by rw [hb,hl];omega)
     obtain ⟨ds,h1,h2⟩:=this
     exact ⟨ds,by simpa using h1,h2,by rw [hl,hb]⟩
  ·rename_i m e hu
   cases hg:oW P n e with
   |none=>rw [hg] at h;simp at h
   |some k1=>
    rw [hg] at h
    simp only at h
    cases hb:(Ta k1.length (P.cellsOf e)&&Ta (m*k1.length) (P.cellsOf t)) with
    |false=>rw [hb] at h;simp at h
    |true=>
     rw [hb] at h
     obtain rfl:=SE h
     rw [Bool.and_eq_true,S8,S8] at hb
     obtain ⟨xs,n',_,_,hl,hxl,hf⟩:=DataW.trod_array hu ht
     obtain ⟨ds,h1,h2⟩:=rp k1 (P.cellsOf e) m cs (by rw [hl,← hb.2,hb.1]) (fun i hi=>by
      have QT:=hf i hi
      have Rw:i<xs.length:=by omega
      rw [Th Rw] at QT
      obtain ⟨ds,s1,o1,_⟩:=oz n e k1 n' _ _ hg QT
      exact ⟨ds,s1,o1⟩)
     exact ⟨ds,h1,h2,by rw [hl,wz,hb.2]⟩
  ·cases h
theorem Di {a:Addr} {x y:Nat} {v:Value} (h:w.cell? ((a.add x).add y)=some v):w.cell? ⟨a.block,a.off+x+y,none⟩=some v:=by
 obtain ⟨b,o,sp⟩:=a
 unfold Addr.add at h
 unfold World.cell? at h ⊢
 by_cases hx:x=0
 ·by_cases hy:y=0
  ·subst hx hy
   simp only [if_true] at h
   simp only [Nat.add_zero]
   cases sp with
   |none=>exact h
   |some q=>split at h<;>simp at h
  ·subst hx
   simp only [if_true,if_neg hy] at h
   simpa using h
 ·by_cases hy:y=0
  ·subst hy
   simp only [if_true,if_neg hx] at h
   simpa using h
  ·simp only [if_neg hx,if_neg hy] at h
   simpa using h
theorem nj:∀ {ks:List LK} {ds:List D},nk ks ds→∀c∈ds,storable c=true
 | [],ds,h,c,hc=>by simp only [nk] at h;subst h;simp at hc
 | .bool::r,ds,⟨q,l,e,h⟩,c,hc=>by
  subst e
  rcases List.mem_cons.mp hc with rfl|hc
  ·rfl
  ·exact nj h c hc
 | .int k::r,ds,⟨n,l,e,_,h⟩,c,hc=>by
  subst e
  rcases List.mem_cons.mp hc with rfl|hc
  ·rfl
  ·exact nj h c hc
 | .str::r,ds,⟨n,l,e,_,h⟩,c,hc=>by
  subst e
  rcases List.mem_cons.mp hc with rfl|hc
  ·rfl
  ·exact nj h c hc
theorem kN {t e:TypeId} {ks:List LK} {v:Value} {fuel:Nat} {x:DataW H×List MemPlace} (mk:List D→D) (Nx:∀ds,nk ks ds→(mk ds).cells=some ds) (hs:P.underlying t=some (.slice e)) (hk:oW P 10 e=some ks) (LR:P.cellsOf e=ks.length) (Ru:ks.length≠0)
  (h:DataW.trod enc P w base spare held fuel t [v]=some x):
  ∃xs:List (List D),(∀ds∈xs,nk ks ds)∧(xs.length:Int)≤9223372036854775807∧bk (eY (xI w)) (.aj .no ks.length (xs.map mk)) v:=by
 rcases open_slice hs h with ⟨h0,_⟩|⟨a,len,cap,m,n,D',Pl,LP,hb,hl,hm,hmm,hx,hi⟩
 ·obtain rfl:=(List.cons.inj h0).1
  refine ⟨[],by simp,by simp,?_⟩
  exact .aj 0 0 (fun _ _=> .nilFunc) rfl (Nat.le_refl _) (by simp) (by simp) (by simp) (by simp) (by simp) trivial
 ·obtain rfl:=(List.cons.inj LP).1
  have hlm:len≤m:=by rw [hmm];split<;>omega
  have hex:∀i,∃ds:List D,i<len→∃My,w.cells? base (a.add (i*P.cellsOf e)) (P.cellsOf e)=some My∧iI My=some ds∧nk ks ds:=by
   intro i
   by_cases LN:i<len
   ·obtain ⟨My,h1,h2⟩:=hi i (by omega)
    obtain ⟨ds,s1,o1,_⟩:=oz 10 e ks n My _ hk h2
    exact ⟨ds,fun _=>⟨My,h1,s1,o1⟩⟩
   ·exact ⟨[],fun q=>absurd q LN⟩
  obtain ⟨F,hF⟩:=Classical.axiomOfChoice hex
  have PK:∀i,i<len→(F i).length=ks.length:=by
   intro i LN
   obtain ⟨My,h1,h2,h3⟩:=hF i LN
   rw [(qu (M:=eY (xI w)) h2).1,(World.cells?_some h1).2.1,LR]
  have Nl:∀(i:Nat) (y:D),((SI len).map F|>.map mk)[i]? =some y→i<len∧y=mk (F i):=by
   intro i y hy
   rw [SW,SW,Option.map_eq_some_iff] at hy
   obtain ⟨q,hq,rfl⟩:=hy
   rw [Option.map_eq_some_iff] at hq
   obtain ⟨j,hj,rfl⟩:=hq
   have OO:i<len:=by
    rcases SY i len with q|q
    ·exact q
    ·rw [SN (by simpa using q)] at hj;cases hj
   rw [List.getElem?_range OO] at hj
   obtain rfl:=SE hj
   exact ⟨OO,rfl⟩
  have Mh:∀(i:Nat) (y:D) (cs:List D) (j:Nat) (c:D),((SI len).map F|>.map mk)[i]? =some y→y.cells=some cs→cs[j]? =some c→∃v',w.cell? ⟨a.block,a.off+i*ks.length+j,none⟩=some v'∧∀M,bk M c v':=by
   intro i y cs j c hy hc hj
   obtain ⟨OO,rfl⟩:=Nl i y hy
   obtain ⟨My,h1,h2,h3⟩:=hF i OO
   rw [Nx _ h3] at hc
   obtain rfl:=SE hc
   have N2:j<ks.length:=by
    rw [← PK i OO]
    rcases SY j (F i).length with q|q
    ·exact q
    ·rw [SN q] at hj;cases hj
   obtain ⟨_,N0,OT⟩:=World.cells?_some h1
   have hv:=OT j (by rw [LR];exact N2)
   have QP:j<My.length:=by rw [N0,LR];exact N2
   rw [Th QP] at hv
   refine ⟨My[j],by rw [LR] at hv;exact Di hv,fun M=> ?_⟩
   exact (qu (M:=M) h2).2 j c _ hj (Th QP)
  refine ⟨(SI len).map F,?_,?_,?_⟩
  ·intro ds Sn
   rw [List.mem_map] at Sn
   obtain ⟨i,hi',rfl⟩:=Sn
   exact (hF i (by simpa using hi')).choose_spec.2.2
  ·have:maxLen=9223372036854775807:=rfl
   simp only [List.length_map,List.length_range]
   omega
  ·refine .aj a.block a.off (fun i j=>(w.cell? ⟨a.block,a.off+i*ks.length+j,none⟩).getD .nilFunc) (by simp) (by omega) ?_ ?_ ?_ ?_ ?_ trivial
   ·intro ME
    have Pg:0<len:=by
     rcases Nat.eq_zero_or_pos len with q|q
     ·subst q;simp at ME
     ·exact q
    obtain ⟨My,h1,h2,h3⟩:=hF 0 Pg
    have hk0:=Ru
    ·obtain ⟨_,N0,OT⟩:=World.cells?_some h1
     have hv:=OT 0 (by rw [LR];omega)
     have Pu:0<My.length:=by rw [N0,LR];omega
     rw [Th Pu] at hv
     obtain ⟨b,o,sp⟩:=a
     cases sp with
     |none=>rfl
     |some q=>
      exfalso
      unfold World.cell? Addr.add at hv
      simp only [Nat.zero_mul,if_true] at hv
      split at hv<;>simp at hv
   ·intro i y hy
    obtain ⟨OO,rfl⟩:=Nl i y hy
    obtain ⟨My,h1,h2,h3⟩:=hF i OO
    exact ⟨F i,Nx _ h3,PK i OO⟩
   ·intro i y cs j c hy hc hj
    obtain ⟨v',h1,_⟩:=Mh i y cs j c hy hc hj
    show w.cell? ⟨a.block,a.off+i*ks.length+j,none⟩=_
    rw [h1];rfl
   ·intro i y cs j c hy hc hj
    obtain ⟨v',h1,h2⟩:=Mh i y cs j c hy hc hj
    rw [h1]
    exact h2 _
   ·intro i y cs c hy hc hj
    obtain ⟨OO,rfl⟩:=Nl i y hy
    obtain ⟨My,h1,h2,h3⟩:=hF i OO
    rw [Nx _ h3] at hc
    obtain rfl:=SE hc
    exact nj h3 c hj
theorem mT:∀ {ts:List TypeId} {vs:List Value} {ds:List (DataW H)} {ps:List MemPlace},DataW.TrodAll enc P w base spare held ts vs ds ps→∀(i:Nat) (t:TypeId) (v:Value),ts[i]? =some t→vs[i]? =some v→∃(fuel:Nat) (x:DataW H×List MemPlace),DataW.trod enc P w base spare held fuel t v.cells.toList=some x
 | [],vs,ds,ps,h,i,t,v,ht,_=>by simp at ht
 |t0::ts,vs,ds,ps,h,i,t,v,ht,hv=>by
  obtain ⟨v0,vs',d,Rk,p,q,rfl,rfl,rfl,h1,h2⟩:=trodAll_cons h
  cases i with
  |zero=>
   simp only [List.getElem?_cons_zero,SL] at ht hv
   subst ht hv
   obtain ⟨fuel,hf⟩:=h1
   exact ⟨fuel,_,hf⟩
  |succ i=>
   simp only [List.getElem?_cons_succ] at ht hv
   exact mT h2 i t v ht hv
end
end Go.Ev
