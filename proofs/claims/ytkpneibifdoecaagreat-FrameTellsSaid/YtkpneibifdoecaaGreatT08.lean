import Derived.Deep.Slices
import Derived.ChangeArms
import Derived.OpenShut
import Derived.Test.YtkpneibifdoecaaGreatT07
open List renaming length_append→Vu,getElem?_eq_none→VO,getElem?_map→VW,getElem?_eq_getElem→V8
open Option.some renaming inj→VA,injEq→VI
open Nat renaming lt_or_ge→VS,beq_eq→VZ,beq→V2
/- Contracts and plain laws that a statement's proof leans on (texts merged:EvV). -/
set_option linter.unusedVariables false
set_option linter.unusedSimpArgs false
namespace Go.Ev
open Go Go.RowKit Go.ChangeShapes Go.WideShapes Go.Deep
def kJ (P:Program) (g:TypeId→Option (List LK)):Nat→List Field→Option (List LK)
  |_,[]=>some []
  |off,f::r=>match g f.type with
    |some ks=>match V2 f.offset off&&V2 ks.length (P.cellsOf f.type) with
      |true=>match kJ P g (off+ks.length) r with
        |some l=>some (ks++l)
        |none=>none
      |false=>none
    |none=>none
def Bc:Nat→List LK→List LK
  |0,_=> []
  |n+1,ks=>ks++Bc n ks
def mH (P:Program):Nat→TypeId→Option (List LK)
  |0,_=>none
  |n+1,t=>match P.underlying t with
    |some .bool=>some [.bool]
    |some (.int k)=>some [.int k]
    |some (.struct fs)=>match kJ P (mH P n) 0 fs.toList with
      |some ks=>match V2 ks.length (P.cellsOf t) with|true=>some ks|false=>none
      |none=>none
    |some (.array m e)=>match mH P n e with
      |some ks=>match V2 ks.length (P.cellsOf e)&&V2 (m*ks.length) (P.cellsOf t) with|true=>some (Bc m ks)|false=>none
      |none=>none
    |_=>none
theorem vo (ks:List LK):∀n,(Bc n ks).length=n*ks.length
 |0=>by simp [Bc]
 |n+1=>by rw [Bc,Vu,vo ks n,Nat.succ_mul];omega
theorem iH:∀ {a b:List Value} {x y:List D},fP a=some x→fP b=some y→fP (a++b)=some (x++y)
 | [],b,x,y,h,k=>by
  simp only [fP,VI] at h;subst h;exact k
 |v::r,b,x,y,h,k=>by
  rw [fP] at h
  split at h
  ·rename_i d l h1 h2
   obtain rfl:=VA h
   rw [List.cons_append,fP,h1,iH h2 k]
   rfl
  ·cases h
theorem gI:∀ {a b:List LK} {x y:List D},lj a x→lj b y→lj (a++b) (x++y)
 | [],b,x,y,h,k=>by
  simp only [lj] at h;subst h;exact k
 | .bool::r,b,x,y,⟨q,l,e,h⟩,k=>by
  subst e
  exact ⟨q,l++y,rfl,gI h k⟩
 | .int kd::r,b,x,y,⟨n,l,e,hn,h⟩,k=>by
  subst e
  exact ⟨n,l++y,rfl,hn,gI h k⟩
 | .str::r,b,x,y,⟨n,l,e,hn,h⟩,k=>by
  subst e
  exact ⟨n,l++y,rfl,hn,gI h k⟩
section
variable {H:Type} {enc:TypeId×Value→H} {P:Program} {w:World} {base:Nat} {spare:Nat→Bool} {held:Bool}
theorem mI {g:TypeId→Option (List LK)} {cs:List Value}
  (ih:∀(t:TypeId) (ks:List LK) (fuel:Nat) (cs:List Value) (x:DataW H×List MemPlace),g t=some ks→DataW.trod enc P w base spare held fuel t cs=some x→∃ds:List D,fP cs=some ds∧lj ks ds∧cs.length=ks.length):
  ∀(r:List Field) (off:Nat) (ks:List LK),kJ P g off r=some ks→(∀f∈r,∃fuel x,DataW.trod enc P w base spare held fuel f.type ((cs.drop f.offset).take (P.cellsOf f.type))=some x)→off+ks.length=cs.length→
  ∃ds:List D,fP (cs.drop off)=some ds∧lj ks ds
 | [],off,ks,h,_,hl=>by
  simp only [kJ,VI] at h
  subst h
  rw [List.drop_eq_nil_of_le (by simp at hl;omega)]
  exact ⟨[],rfl,rfl⟩
 |f::r,off,ks,h,hf,hl=>by
  rw [kJ] at h
  cases hg:g f.type with
  |none=>rw [hg] at h;simp at h
  |some k1=>
   rw [hg] at h
   simp only at h
   cases hb:(V2 f.offset off&&V2 k1.length (P.cellsOf f.type)) with
   |false=>rw [hb] at h;simp at h
   |true=>
    rw [hb] at h
    simp only at h
    rw [Bool.and_eq_true,VZ,VZ] at hb
    obtain ⟨e1,e2⟩:=hb
    cases hr:kJ P g (off+k1.length) r with
    |none=>rw [hr] at h;simp at h
    |some k2=>
     rw [hr] at h
     obtain rfl:=VA h
     obtain ⟨fuel,x,ht⟩:=hf f (List.mem_cons_self ..)
     obtain ⟨d1,s1,o1,l1⟩:=ih _ _ _ _ _ hg ht
     obtain ⟨d2,s2,o2⟩:=mI ih r (off+k1.length) k2 hr (fun f' T9=>hf f' (List.mem_cons_of_mem _ T9)) (by rw [← hl,Vu];omega)
     refine ⟨d1++d2,?_,gI o1 o2⟩
     have e:cs.drop off=(cs.drop off).take k1.length++cs.drop (off+k1.length):=by
      rw [← List.drop_drop,List.take_append_drop]
     rw [e]
     refine iH ?_ s2
     rw [e1,← e2] at s1
     exact s1
theorem oG (ks:List LK) (sz:Nat):∀(m:Nat) (cs:List Value),cs.length=m*sz→(∀i,i<m→∃ds:List D,fP ((cs.drop (i*sz)).take sz)=some ds∧lj ks ds)→∃ds:List D,fP cs=some ds∧lj (Bc m ks) ds
 |0,cs,hl,_=>by
  have:cs= []:=List.eq_nil_of_length_eq_zero (by simpa using hl)
  subst this
  exact ⟨[],rfl,rfl⟩
 |m+1,cs,hl,h=>by
  obtain ⟨d1,s1,o1⟩:=h 0 (by omega)
  rw [Nat.zero_mul,List.drop_zero] at s1
  obtain ⟨d2,s2,o2⟩:=oG ks sz m (cs.drop sz) (by rw [List.length_drop,hl,Nat.succ_mul];omega) (fun i hi=>by
   have:=h (i+1) (by omega)
   rw [Nat.succ_mul,Nat.add_comm,← List.drop_drop] at this
   exact this)
  refine ⟨d1++d2,?_,gI o1 o2⟩
  have:=iH s1 s2
  rwa [List.take_append_drop] at this
theorem l9:∀(n:Nat) (t:TypeId) (ks:List LK) (fuel:Nat) (cs:List Value) (x:DataW H×List MemPlace),mH P n t=some ks→DataW.trod enc P w base spare held fuel t cs=some x→
  ∃ds:List D,fP cs=some ds∧lj ks ds∧cs.length=ks.length
 |0,t,ks,fuel,cs,x,h,_=>by simp [mH] at h
 |n+1,t,ks,fuel,cs,x,h,ht=>by
  rw [mH] at h
  split at h
  ·rename_i hu
   obtain rfl:=VA h
   obtain ⟨b,rfl,_⟩:=DataW.trod_bool hu ht
   exact ⟨[.bool b],rfl,⟨b,[],rfl,rfl⟩,rfl⟩
  ·rename_i k hu
   obtain rfl:=VA h
   obtain ⟨m,rfl,_,hw⟩:=DataW.trod_int hu ht
   refine ⟨[.int k m],rfl,⟨m,[],rfl,?_,rfl⟩,rfl⟩
   simpa [Lit.wf,IntKind.has] using hw
  ·rename_i fs hu
   cases hg:kJ P (mH P n) 0 fs.toList with
   |none=>rw [hg] at h;simp at h
   |some k1=>
    rw [hg] at h
    simp only at h
    cases hb:V2 k1.length (P.cellsOf t) with
    |false=>rw [hb] at h;simp at h
    |true=>
     rw [hb] at h
     obtain rfl:=VA h
     rw [VZ] at hb
     obtain ⟨xs,n',_,_,hl,Ti,hf⟩:=DataW.trod_struct hu ht
     have:=mI (cs:=cs) (l9 n) fs.toList 0 k1 hg (by
      intro f T9
      obtain ⟨i,hi,e⟩:=List.getElem_of_mem T9
      have e2:fs[i]? =some f:=by
       rw [← Array.getElem?_toList,V8 hi,e]
      have TD:=hf i f e2
      have UF:i<xs.length:=by rw [Ti];simpa using hi
      rw [V8 UF] at TD
      exact ⟨n',xs[i],TD⟩) (by rw [hb,hl];omega)
     obtain ⟨ds,h1,h2⟩:=this
     exact ⟨ds,by simpa using h1,h2,by rw [hl,hb]⟩
  ·rename_i m e hu
   cases hg:mH P n e with
   |none=>rw [hg] at h;simp at h
   |some k1=>
    rw [hg] at h
    simp only at h
    cases hb:(V2 k1.length (P.cellsOf e)&&V2 (m*k1.length) (P.cellsOf t)) with
    |false=>rw [hb] at h;simp at h
    |true=>
     rw [hb] at h
     obtain rfl:=VA h
     rw [Bool.and_eq_true,VZ,VZ] at hb
     obtain ⟨xs,n',_,_,hl,Ti,hf⟩:=DataW.trod_array hu ht
     obtain ⟨ds,h1,h2⟩:=oG k1 (P.cellsOf e) m cs (by rw [hl,← hb.2,hb.1]) (fun i hi=>by
      have TD:=hf i hi
      have UF:i<xs.length:=by omega
      rw [V8 UF] at TD
      obtain ⟨ds,s1,o1,_⟩:=l9 n e k1 n' _ _ hg TD
      exact ⟨ds,s1,o1⟩)
     exact ⟨ds,h1,h2,by rw [hl,vo,hb.2]⟩
  ·cases h
theorem Cs {a:Addr} {x y:Nat} {v:Value} (h:w.cell? ((a.add x).add y)=some v):w.cell? ⟨a.block,a.off+x+y,none⟩=some v:=by
 obtain ⟨b,o,sp⟩:=a
 unfold Addr.add at h
 unfold World.cell? at h ⊢
 by_cases hx:x=0
 ·by_cases hy:y=0
  ·subst hx hy
   simp only [if_true] at h
   simp only [Nat.add_zero]
   cases sp with
   |none=>exact h
   |some q=>split at h<;>simp at h
  ·subst hx
   simp only [if_true,if_neg hy] at h
   simpa using h
 ·by_cases hy:y=0
  ·subst hy
   simp only [if_true,if_neg hx] at h
   simpa using h
  ·simp only [if_neg hx,if_neg hy] at h
   simpa using h
theorem lh:∀ {ks:List LK} {ds:List D},lj ks ds→∀c∈ds,storable c=true
 | [],ds,h,c,hc=>by simp only [lj] at h;subst h;simp at hc
 | .bool::r,ds,⟨q,l,e,h⟩,c,hc=>by
  subst e
  rcases List.mem_cons.mp hc with rfl|hc
  ·rfl
  ·exact lh h c hc
 | .int k::r,ds,⟨n,l,e,_,h⟩,c,hc=>by
  subst e
  rcases List.mem_cons.mp hc with rfl|hc
  ·rfl
  ·exact lh h c hc
 | .str::r,ds,⟨n,l,e,_,h⟩,c,hc=>by
  subst e
  rcases List.mem_cons.mp hc with rfl|hc
  ·rfl
  ·exact lh h c hc
theorem tS {t e:TypeId} {ks:List LK} {v:Value} {fuel:Nat} {x:DataW H×List MemPlace} (mk:List D→D) (Q6:∀ds,lj ks ds→(mk ds).cells=some ds) (hs:P.underlying t=some (.slice e)) (hk:mH P 10 e=some ks) (Po:P.cellsOf e=ks.length) (UO:ks.length≠0)
  (h:DataW.trod enc P w base spare held fuel t [v]=some x):
  ∃xs:List (List D),(∀ds∈xs,lj ks ds)∧(xs.length:Int)≤9223372036854775807∧bz (ek (mO w)) (.aq .no ks.length (xs.map mk)) v:=by
 rcases open_slice hs h with ⟨h0,_⟩|⟨a,len,cap,m,n,D',Pl,Pg,hb,hl,hm,hmm,hx,hi⟩
 ·obtain rfl:=(List.cons.inj h0).1
  refine ⟨[],by simp,by simp,?_⟩
  exact .aq 0 0 (fun _ _=> .nilFunc) rfl (Nat.le_refl _) (by simp) (by simp) (by simp) (by simp) (by simp) trivial
 ·obtain rfl:=(List.cons.inj Pg).1
  have hlm:len≤m:=by rw [hmm];split<;>omega
  have hex:∀i,∃ds:List D,i<len→∃PM,w.cells? base (a.add (i*P.cellsOf e)) (P.cellsOf e)=some PM∧fP PM=some ds∧lj ks ds:=by
   intro i
   by_cases Pd:i<len
   ·obtain ⟨PM,h1,h2⟩:=hi i (by omega)
    obtain ⟨ds,s1,o1,_⟩:=l9 10 e ks n PM _ hk h2
    exact ⟨ds,fun _=>⟨PM,h1,s1,o1⟩⟩
   ·exact ⟨[],fun q=>absurd q Pd⟩
  obtain ⟨F,hF⟩:=Classical.axiomOfChoice hex
  have Sp:∀i,i<len→(F i).length=ks.length:=by
   intro i Pd
   obtain ⟨PM,h1,h2,h3⟩:=hF i Pd
   rw [(la (M:=ek (mO w)) h2).1,(World.cells?_some h1).2.1,Po]
  have P5:∀(i:Nat) (y:D),((List.range len).map F|>.map mk)[i]? =some y→i<len∧y=mk (F i):=by
   intro i y hy
   rw [VW,VW,Option.map_eq_some_iff] at hy
   obtain ⟨q,hq,rfl⟩:=hy
   rw [Option.map_eq_some_iff] at hq
   obtain ⟨j,hj,rfl⟩:=hq
   have Ro:i<len:=by
    rcases VS i len with q|q
    ·exact q
    ·rw [VO (by simpa using q)] at hj;cases hj
   rw [List.getElem?_range Ro] at hj
   obtain rfl:=VA hj
   exact ⟨Ro,rfl⟩
  have PF:∀(i:Nat) (y:D) (cs:List D) (j:Nat) (c:D),((List.range len).map F|>.map mk)[i]? =some y→y.cells=some cs→cs[j]? =some c→∃v',w.cell? ⟨a.block,a.off+i*ks.length+j,none⟩=some v'∧∀M,bz M c v':=by
   intro i y cs j c hy hc hj
   obtain ⟨Ro,rfl⟩:=P5 i y hy
   obtain ⟨PM,h1,h2,h3⟩:=hF i Ro
   rw [Q6 _ h3] at hc
   obtain rfl:=VA hc
   have QT:j<ks.length:=by
    rw [← Sp i Ro]
    rcases VS j (F i).length with q|q
    ·exact q
    ·rw [VO q] at hj;cases hj
   obtain ⟨_,PG,RG⟩:=World.cells?_some h1
   have hv:=RG j (by rw [Po];exact QT)
   have Te:j<PM.length:=by rw [PG,Po];exact QT
   rw [V8 Te] at hv
   refine ⟨PM[j],by rw [Po] at hv;exact Cs hv,fun M=> ?_⟩
   exact (la (M:=M) h2).2 j c _ hj (V8 Te)
  refine ⟨(List.range len).map F,?_,?_,?_⟩
  ·intro ds U2
   rw [List.mem_map] at U2
   obtain ⟨i,hi',rfl⟩:=U2
   exact (hF i (by simpa using hi')).choose_spec.2.2
  ·have:maxLen=9223372036854775807:=rfl
   simp only [List.length_map,List.length_range]
   omega
  ·refine .aq a.block a.off (fun i j=>(w.cell? ⟨a.block,a.off+i*ks.length+j,none⟩).getD .nilFunc) (by simp) (by omega) ?_ ?_ ?_ ?_ ?_ trivial
   ·intro Px
    have RP:0<len:=by
     rcases Nat.eq_zero_or_pos len with q|q
     ·subst q;simp at Px
     ·exact q
    obtain ⟨PM,h1,h2,h3⟩:=hF 0 RP
    have hk0:=UO
    ·obtain ⟨_,PG,RG⟩:=World.cells?_some h1
     have hv:=RG 0 (by rw [Po];omega)
     have R4:0<PM.length:=by rw [PG,Po];omega
     rw [V8 R4] at hv
     obtain ⟨b,o,sp⟩:=a
     cases sp with
     |none=>rfl
     |some q=>
      exfalso
      unfold World.cell? Addr.add at hv
      simp only [Nat.zero_mul,if_true] at hv
      split at hv<;>simp at hv
   ·intro i y hy
    obtain ⟨Ro,rfl⟩:=P5 i y hy
    obtain ⟨PM,h1,h2,h3⟩:=hF i Ro
    exact ⟨F i,Q6 _ h3,Sp i Ro⟩
   ·intro i y cs j c hy hc hj
    obtain ⟨v',h1,_⟩:=PF i y cs j c hy hc hj
    show w.cell? ⟨a.block,a.off+i*ks.length+j,none⟩=_
    rw [h1];rfl
   ·intro i y cs j c hy hc hj
    obtain ⟨v',h1,h2⟩:=PF i y cs j c hy hc hj
    rw [h1]
    exact h2 _
   ·intro i y cs c hy hc hj
    obtain ⟨Ro,rfl⟩:=P5 i y hy
    obtain ⟨PM,h1,h2,h3⟩:=hF i Ro
    rw [Q6 _ h3] at hc
    obtain rfl:=VA hc
    exact lh h3 c hj
theorem tM:∀ {ts:List TypeId} {vs:List Value} {ds:List (DataW H)} {ps:List MemPlace},DataW.TrodAll enc P w base spare held ts vs ds ps→∀(i:Nat) (t:TypeId) (v:Value),ts[i]? =some t→vs[i]? =some v→∃(fuel:Nat) (x:DataW H×List MemPlace),DataW.trod enc P w base spare held fuel t v.cells.toList=some x
 | [],vs,ds,ps,h,i,t,v,ht,_=>by simp at ht
 |t0::ts,vs,ds,ps,h,i,t,v,ht,hv=>by
  obtain ⟨v0,vs',d,TV,p,q,rfl,rfl,rfl,h1,h2⟩:=trodAll_cons h
  cases i with
  |zero=>
   simp only [List.getElem?_cons_zero,VI] at ht hv
   subst ht hv
   obtain ⟨fuel,hf⟩:=h1
   exact ⟨fuel,_,hf⟩
  |succ i=>
   simp only [List.getElem?_cons_succ] at ht hv
   exact tM h2 i t v ht hv
end
end Go.Ev
