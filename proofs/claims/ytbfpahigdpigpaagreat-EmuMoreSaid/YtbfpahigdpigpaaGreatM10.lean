import Derived.Deep.Slices
import Derived.ChangeArms
import Derived.OpenShut
import Derived.Test.YtbfpahigdpigpaaGreatM09
/- Contracts and plain laws that a statement's proof leans on (texts merged:EvV). -/
set_option linter.unusedVariables false
set_option linter.unusedSimpArgs false
namespace Go.Ev
open Go Go.RowKit Go.ChangeShapes Go.WideShapes Go.Deep
def lX (P:Program) (g:TypeId→Option (List LK)):Nat→List Field→Option (List LK)
  |_,[]=>some []
  |off,f::r=>match g f.type with
    |some ks=>match Nat.beq f.offset off&&Nat.beq ks.length (P.cellsOf f.type) with
      |true=>match lX P g (off+ks.length) r with
        |some l=>some (ks++l)
        |none=>none
      |false=>none
    |none=>none
def zq:Nat→List LK→List LK
  |0,_=> []
  |n+1,ks=>ks++zq n ks
def nL (P:Program):Nat→TypeId→Option (List LK)
  |0,_=>none
  |n+1,t=>match P.underlying t with
    |some .bool=>some [.bool]
    |some (.int k)=>some [.int k]
    |some (.struct fs)=>match lX P (nL P n) 0 fs.toList with
      |some ks=>match Nat.beq ks.length (P.cellsOf t) with|true=>some ks|false=>none
      |none=>none
    |some (.array m e)=>match nL P n e with
      |some ks=>match Nat.beq ks.length (P.cellsOf e)&&Nat.beq (m*ks.length) (P.cellsOf t) with|true=>some (zq m ks)|false=>none
      |none=>none
    |_=>none
theorem uE (ks:List LK):∀n,(zq n ks).length=n*ks.length
 |0=>by simp [zq]
 |n+1=>by rw [zq,List.length_append,uE ks n,Nat.succ_mul];omega
theorem jG:∀ {a b:List Value} {x y:List D},ib a=some x→ib b=some y→ib (a++b)=some (x++y)
 | [],b,x,y,h,k=>by
  simp only [ib,Option.some.injEq] at h;subst h;exact k
 |v::r,b,x,y,h,k=>by
  rw [ib] at h
  split at h
  ·rename_i d l h1 h2
   obtain rfl:=Option.some.inj h
   rw [List.cons_append,ib,h1,jG h2 k]
   rfl
  ·cases h
theorem iA:∀ {a b:List LK} {x y:List D},l7 a x→l7 b y→l7 (a++b) (x++y)
 | [],b,x,y,h,k=>by
  simp only [l7] at h;subst h;exact k
 | .bool::r,b,x,y,⟨q,l,e,h⟩,k=>by
  subst e
  exact ⟨q,l++y,rfl,iA h k⟩
 | .int kd::r,b,x,y,⟨n,l,e,hn,h⟩,k=>by
  subst e
  exact ⟨n,l++y,rfl,hn,iA h k⟩
 | .str::r,b,x,y,⟨n,l,e,hn,h⟩,k=>by
  subst e
  exact ⟨n,l++y,rfl,hn,iA h k⟩
section
variable {H:Type} {enc:TypeId×Value→H} {P:Program} {w:World} {base:Nat} {spare:Nat→Bool} {held:Bool}
theorem nM {g:TypeId→Option (List LK)} {cs:List Value}
  (ih:∀(t:TypeId) (ks:List LK) (fuel:Nat) (cs:List Value) (x:DataW H×List MemPlace),g t=some ks→DataW.trod enc P w base spare held fuel t cs=some x→∃ds:List D,ib cs=some ds∧l7 ks ds∧cs.length=ks.length):
  ∀(r:List Field) (off:Nat) (ks:List LK),lX P g off r=some ks→(∀f∈r,∃fuel x,DataW.trod enc P w base spare held fuel f.type ((cs.drop f.offset).take (P.cellsOf f.type))=some x)→off+ks.length=cs.length→
  ∃ds:List D,ib (cs.drop off)=some ds∧l7 ks ds
 | [],off,ks,h,_,hl=>by
  simp only [lX,Option.some.injEq] at h
  subst h
  rw [List.drop_eq_nil_of_le (by simp at hl;omega)]
  exact ⟨[],rfl,rfl⟩
 |f::r,off,ks,h,hf,hl=>by
  rw [lX] at h
  cases hg:g f.type with
  |none=>rw [hg] at h;simp at h
  |some k1=>
   rw [hg] at h
   simp only at h
   cases hb:(Nat.beq f.offset off&&Nat.beq k1.length (P.cellsOf f.type)) with
   |false=>rw [hb] at h;simp at h
   |true=>
    rw [hb] at h
    simp only at h
    rw [Bool.and_eq_true,Nat.beq_eq,Nat.beq_eq] at hb
    obtain ⟨e1,e2⟩:=hb
    cases hr:lX P g (off+k1.length) r with
    |none=>rw [hr] at h;simp at h
    |some k2=>
     rw [hr] at h
     obtain rfl:=Option.some.inj h
     obtain ⟨fuel,x,ht⟩:=hf f (List.mem_cons_self ..)
     obtain ⟨d1,s1,o1,l1⟩:=ih _ _ _ _ _ hg ht
     obtain ⟨d2,s2,o2⟩:=nM ih r (off+k1.length) k2 hr (fun f' hf'=>hf f' (List.mem_cons_of_mem _ hf')) (by rw [← hl,List.length_append];omega)
     refine ⟨d1++d2,?_,iA o1 o2⟩
     have e:cs.drop off=(cs.drop off).take k1.length++cs.drop (off+k1.length):=by
      rw [← List.drop_drop,List.take_append_drop]
     rw [e]
     refine jG ?_ s2
     rw [e1,← e2] at s1
     exact s1
theorem pV (ks:List LK) (sz:Nat):∀(m:Nat) (cs:List Value),cs.length=m*sz→(∀i,i<m→∃ds:List D,ib ((cs.drop (i*sz)).take sz)=some ds∧l7 ks ds)→∃ds:List D,ib cs=some ds∧l7 (zq m ks) ds
 |0,cs,hl,_=>by
  have:cs= []:=List.eq_nil_of_length_eq_zero (by simpa using hl)
  subst this
  exact ⟨[],rfl,rfl⟩
 |m+1,cs,hl,h=>by
  obtain ⟨d1,s1,o1⟩:=h 0 (by omega)
  rw [Nat.zero_mul,List.drop_zero] at s1
  obtain ⟨d2,s2,o2⟩:=pV ks sz m (cs.drop sz) (by rw [List.length_drop,hl,Nat.succ_mul];omega) (fun i hi=>by
   have:=h (i+1) (by omega)
   rw [Nat.succ_mul,Nat.add_comm,← List.drop_drop] at this
   exact this)
  refine ⟨d1++d2,?_,iA o1 o2⟩
  have:=jG s1 s2
  rwa [List.take_append_drop] at this
theorem nn:∀(n:Nat) (t:TypeId) (ks:List LK) (fuel:Nat) (cs:List Value) (x:DataW H×List MemPlace),nL P n t=some ks→DataW.trod enc P w base spare held fuel t cs=some x→
  ∃ds:List D,ib cs=some ds∧l7 ks ds∧cs.length=ks.length
 |0,t,ks,fuel,cs,x,h,_=>by simp [nL] at h
 |n+1,t,ks,fuel,cs,x,h,ht=>by
  rw [nL] at h
  split at h
  ·rename_i hu
   obtain rfl:=Option.some.inj h
   obtain ⟨b,rfl,_⟩:=DataW.trod_bool hu ht
   exact ⟨[.bool b],rfl,⟨b,[],rfl,rfl⟩,rfl⟩
  ·rename_i k hu
   obtain rfl:=Option.some.inj h
   obtain ⟨m,rfl,_,hw⟩:=DataW.trod_int hu ht
   refine ⟨[.int k m],rfl,⟨m,[],rfl,?_,rfl⟩,rfl⟩
   simpa [Lit.wf,IntKind.has] using hw
  ·rename_i fs hu
   cases hg:lX P (nL P n) 0 fs.toList with
   |none=>rw [hg] at h;simp at h
   |some k1=>
    rw [hg] at h
    simp only at h
    cases hb:Nat.beq k1.length (P.cellsOf t) with
    |false=>rw [hb] at h;simp at h
    |true=>
     rw [hb] at h
     obtain rfl:=Option.some.inj h
     rw [Nat.beq_eq] at hb
     obtain ⟨xs,n',_,_,hl,hxl,hf⟩:=DataW.trod_struct hu ht
     have:=nM (cs:=cs) (nn n) fs.toList 0 k1 hg (by
      intro f hf'
      obtain ⟨i,hi,e⟩:=List.getElem_of_mem hf'
      have e2:fs[i]? =some f:=by
       rw [← Array.getElem?_toList,List.getElem?_eq_getElem hi,e]
      have hfi:=hf i f e2
      have hxi:i<xs.length:=by rw [hxl];simpa using hi
      rw [List.getElem?_eq_getElem hxi] at hfi
      exact ⟨n',xs[i],hfi⟩) (by rw [hb,hl];omega)
     obtain ⟨ds,h1,h2⟩:=this
     exact ⟨ds,by simpa using h1,h2,by rw [hl,hb]⟩
  ·rename_i m e hu
   cases hg:nL P n e with
   |none=>rw [hg] at h;simp at h
   |some k1=>
    rw [hg] at h
    simp only at h
    cases hb:(Nat.beq k1.length (P.cellsOf e)&&Nat.beq (m*k1.length) (P.cellsOf t)) with
    |false=>rw [hb] at h;simp at h
    |true=>
     rw [hb] at h
     obtain rfl:=Option.some.inj h
     rw [Bool.and_eq_true,Nat.beq_eq,Nat.beq_eq] at hb
     obtain ⟨xs,n',_,_,hl,hxl,hf⟩:=DataW.trod_array hu ht
     obtain ⟨ds,h1,h2⟩:=pV k1 (P.cellsOf e) m cs (by rw [hl,← hb.2,hb.1]) (fun i hi=>by
      have hfi:=hf i hi
      have hxi:i<xs.length:=by omega
      rw [List.getElem?_eq_getElem hxi] at hfi
      obtain ⟨ds,s1,o1,_⟩:=nn n e k1 n' _ _ hg hfi
      exact ⟨ds,s1,o1⟩)
     exact ⟨ds,h1,h2,by rw [hl,uE,hb.2]⟩
  ·cases h
theorem Bj {a:Addr} {x y:Nat} {v:Value} (h:w.cell? ((a.add x).add y)=some v):w.cell? ⟨a.block,a.off+x+y,none⟩=some v:=by
 obtain ⟨b,o,sp⟩:=a
 unfold Addr.add at h
 unfold World.cell? at h ⊢
 by_cases hx:x=0
 ·by_cases hy:y=0
  ·subst hx hy
   simp only [if_true] at h
   simp only [Nat.add_zero]
   cases sp with
   |none=>exact h
   |some q=>split at h<;>simp at h
  ·subst hx
   simp only [if_true,if_neg hy] at h
   simpa using h
 ·by_cases hy:y=0
  ·subst hy
   simp only [if_true,if_neg hx] at h
   simpa using h
  ·simp only [if_neg hx,if_neg hy] at h
   simpa using h
theorem mu:∀ {ks:List LK} {ds:List D},l7 ks ds→∀c∈ds,storable c=true
 | [],ds,h,c,hc=>by simp only [l7] at h;subst h;simp at hc
 | .bool::r,ds,⟨q,l,e,h⟩,c,hc=>by
  subst e
  rcases List.mem_cons.mp hc with rfl|hc
  ·rfl
  ·exact mu h c hc
 | .int k::r,ds,⟨n,l,e,_,h⟩,c,hc=>by
  subst e
  rcases List.mem_cons.mp hc with rfl|hc
  ·rfl
  ·exact mu h c hc
 | .str::r,ds,⟨n,l,e,_,h⟩,c,hc=>by
  subst e
  rcases List.mem_cons.mp hc with rfl|hc
  ·rfl
  ·exact mu h c hc
theorem kh {t e:TypeId} {ks:List LK} {v:Value} {fuel:Nat} {x:DataW H×List MemPlace} (mk:List D→D) (hmk:∀ds,l7 ks ds→(mk ds).cells=some ds) (hs:P.underlying t=some (.slice e)) (hk:nL P 10 e=some ks) (hsz:P.cellsOf e=ks.length) (hne0:ks.length≠0)
  (h:DataW.trod enc P w base spare held fuel t [v]=some x):
  ∃xs:List (List D),(∀ds∈xs,l7 ks ds)∧(xs.length:Int)≤9223372036854775807∧bk (eB (rI w)) (.aj .no ks.length (xs.map mk)) v:=by
 rcases open_slice hs h with ⟨h0,_⟩|⟨a,len,cap,m,n,D',Pl,hcs,hb,hl,hm,hmm,hx,hi⟩
 ·obtain rfl:=(List.cons.inj h0).1
  refine ⟨[],by simp,by simp,?_⟩
  exact .aj 0 0 (fun _ _=> .nilFunc) rfl (Nat.le_refl _) (by simp) (by simp) (by simp) (by simp) (by simp) trivial
 ·obtain rfl:=(List.cons.inj hcs).1
  have hlm:len≤m:=by rw [hmm];split<;>omega
  have hex:∀i,∃ds:List D,i<len→∃cs',w.cells? base (a.add (i*P.cellsOf e)) (P.cellsOf e)=some cs'∧ib cs'=some ds∧l7 ks ds:=by
   intro i
   by_cases hlt:i<len
   ·obtain ⟨cs',h1,h2⟩:=hi i (by omega)
    obtain ⟨ds,s1,o1,_⟩:=nn 10 e ks n cs' _ hk h2
    exact ⟨ds,fun _=>⟨cs',h1,s1,o1⟩⟩
   ·exact ⟨[],fun q=>absurd q hlt⟩
  obtain ⟨F,hF⟩:=Classical.axiomOfChoice hex
  have hlenF:∀i,i<len→(F i).length=ks.length:=by
   intro i hlt
   obtain ⟨cs',h1,h2,h3⟩:=hF i hlt
   rw [(pg (M:=eB (rI w)) h2).1,(World.cells?_some h1).2.1,hsz]
  have hget:∀(i:Nat) (y:D),((List.range len).map F|>.map mk)[i]? =some y→i<len∧y=mk (F i):=by
   intro i y hy
   rw [List.getElem?_map,List.getElem?_map,Option.map_eq_some_iff] at hy
   obtain ⟨q,hq,rfl⟩:=hy
   rw [Option.map_eq_some_iff] at hq
   obtain ⟨j,hj,rfl⟩:=hq
   have hil:i<len:=by
    rcases Nat.lt_or_ge i len with q|q
    ·exact q
    ·rw [List.getElem?_eq_none (by simpa using q)] at hj;cases hj
   rw [List.getElem?_range hil] at hj
   obtain rfl:=Option.some.inj hj
   exact ⟨hil,rfl⟩
  have hval:∀(i:Nat) (y:D) (cs:List D) (j:Nat) (c:D),((List.range len).map F|>.map mk)[i]? =some y→y.cells=some cs→cs[j]? =some c→∃v',w.cell? ⟨a.block,a.off+i*ks.length+j,none⟩=some v'∧∀M,bk M c v':=by
   intro i y cs j c hy hc hj
   obtain ⟨hil,rfl⟩:=hget i y hy
   obtain ⟨cs',h1,h2,h3⟩:=hF i hil
   rw [hmk _ h3] at hc
   obtain rfl:=Option.some.inj hc
   have hjl:j<ks.length:=by
    rw [← hlenF i hil]
    rcases Nat.lt_or_ge j (F i).length with q|q
    ·exact q
    ·rw [List.getElem?_eq_none q] at hj;cases hj
   obtain ⟨_,hcl,hat⟩:=World.cells?_some h1
   have hv:=hat j (by rw [hsz];exact hjl)
   have hjl':j<cs'.length:=by rw [hcl,hsz];exact hjl
   rw [List.getElem?_eq_getElem hjl'] at hv
   refine ⟨cs'[j],by rw [hsz] at hv;exact Bj hv,fun M=> ?_⟩
   exact (pg (M:=M) h2).2 j c _ hj (List.getElem?_eq_getElem hjl')
  refine ⟨(List.range len).map F,?_,?_,?_⟩
  ·intro ds hds
   rw [List.mem_map] at hds
   obtain ⟨i,hi',rfl⟩:=hds
   exact (hF i (by simpa using hi')).choose_spec.2.2
  ·have:maxLen=9223372036854775807:=rfl
   simp only [List.length_map,List.length_range]
   omega
  ·refine .aj a.block a.off (fun i j=>(w.cell? ⟨a.block,a.off+i*ks.length+j,none⟩).getD .nilFunc) (by simp) (by omega) ?_ ?_ ?_ ?_ ?_ trivial
   ·intro hne
    have hlen0:0<len:=by
     rcases Nat.eq_zero_or_pos len with q|q
     ·subst q;simp at hne
     ·exact q
    obtain ⟨cs',h1,h2,h3⟩:=hF 0 hlen0
    have hk0:=hne0
    ·obtain ⟨_,hcl,hat⟩:=World.cells?_some h1
     have hv:=hat 0 (by rw [hsz];omega)
     have h0':0<cs'.length:=by rw [hcl,hsz];omega
     rw [List.getElem?_eq_getElem h0'] at hv
     obtain ⟨b,o,sp⟩:=a
     cases sp with
     |none=>rfl
     |some q=>
      exfalso
      unfold World.cell? Addr.add at hv
      simp only [Nat.zero_mul,if_true] at hv
      split at hv<;>simp at hv
   ·intro i y hy
    obtain ⟨hil,rfl⟩:=hget i y hy
    obtain ⟨cs',h1,h2,h3⟩:=hF i hil
    exact ⟨F i,hmk _ h3,hlenF i hil⟩
   ·intro i y cs j c hy hc hj
    obtain ⟨v',h1,_⟩:=hval i y cs j c hy hc hj
    show w.cell? ⟨a.block,a.off+i*ks.length+j,none⟩=_
    rw [h1];rfl
   ·intro i y cs j c hy hc hj
    obtain ⟨v',h1,h2⟩:=hval i y cs j c hy hc hj
    rw [h1]
    exact h2 _
   ·intro i y cs c hy hc hj
    obtain ⟨hil,rfl⟩:=hget i y hy
    obtain ⟨cs',h1,h2,h3⟩:=hF i hil
    rw [hmk _ h3] at hc
    obtain rfl:=Option.some.inj hc
    exact mu h3 c hj
theorem ma:∀ {ts:List TypeId} {vs:List Value} {ds:List (DataW H)} {ps:List MemPlace},DataW.TrodAll enc P w base spare held ts vs ds ps→∀(i:Nat) (t:TypeId) (v:Value),ts[i]? =some t→vs[i]? =some v→∃(fuel:Nat) (x:DataW H×List MemPlace),DataW.trod enc P w base spare held fuel t v.cells.toList=some x
 | [],vs,ds,ps,h,i,t,v,ht,_=>by simp at ht
 |t0::ts,vs,ds,ps,h,i,t,v,ht,hv=>by
  obtain ⟨v0,vs',d,ds',p,q,rfl,rfl,rfl,h1,h2⟩:=trodAll_cons h
  cases i with
  |zero=>
   simp only [List.getElem?_cons_zero,Option.some.injEq] at ht hv
   subst ht hv
   obtain ⟨fuel,hf⟩:=h1
   exact ⟨fuel,_,hf⟩
  |succ i=>
   simp only [List.getElem?_cons_succ] at ht hv
   exact ma h2 i t v ht hv
end
end Go.Ev
