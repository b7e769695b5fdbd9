import Derived.Deep.Slices
import Derived.ChangeArms
import Derived.OpenShut
import Derived.Test.YtbfpahigdpigpaaGreatQ06
open Option.some renaming inj→aad,injEq→aak
open List renaming getElem?_eq_none→aam,range→aao,length_append→aap,getElem?_map→aau,getElem?_eq_getElem→aaN
open Nat renaming lt_or_ge→aaA,beq_eq→aaG,beq→aaM
/- Contracts and plain laws that a statement's proof leans on (texts merged:EvV). -/
set_option linter.unusedVariables false
set_option linter.unusedSimpArgs false
namespace Go.Ev
open Go Go.RowKit Go.ChangeShapes Go.WideShapes Go.Deep
def nV (P:Program) (g:TypeId→Option (List LK)):Nat→List Field→Option (List LK)
  |_,[]=>some []
  |off,f::r=>match g f.type with
    |some ks=>match aaM f.offset off&&aaM ks.length (P.cellsOf f.type) with
      |true=>match nV P g (off+ks.length) r with
        |some l=>some (ks++l)
        |none=>none
      |false=>none
    |none=>none
def GD:Nat→List LK→List LK
  |0,_=> []
  |n+1,ks=>ks++GD n ks
def qA (P:Program):Nat→TypeId→Option (List LK)
  |0,_=>none
  |n+1,t=>match P.underlying t with
    |some .bool=>some [.bool]
    |some (.int k)=>some [.int k]
    |some (.struct fs)=>match nV P (qA P n) 0 fs.toList with
      |some ks=>match aaM ks.length (P.cellsOf t) with|true=>some ks|false=>none
      |none=>none
    |some (.array m e)=>match qA P n e with
      |some ks=>match aaM ks.length (P.cellsOf e)&&aaM (m*ks.length) (P.cellsOf t) with|true=>some (GD m ks)|false=>none
      |none=>none
    |_=>none
theorem Ag (ks:List LK):∀n,(GD n ks).length=n*ks.length
 |0=>by simp [GD]
 |n+1=>by rw [GD,aap,Ag ks n,Nat.succ_mul];omega
theorem lD:∀ {a b:List Value} {x y:List D},jC a=some x→jC b=some y→jC (a++b)=some (x++y)
 | [],b,x,y,h,k=>by
  simp only [jC,aak] at h;subst h;exact k
 |v::r,b,x,y,h,k=>by
  rw [jC] at h
  split at h
  ·rename_i d l h1 h2
   obtain rfl:=aad h
   rw [List.cons_append,jC,h1,lD h2 k]
   rfl
  ·cases h
theorem j4:∀ {a b:List LK} {x y:List D},pb a x→pb b y→pb (a++b) (x++y)
 | [],b,x,y,h,k=>by
  simp only [pb] at h;subst h;exact k
 | .bool::r,b,x,y,⟨q,l,e,h⟩,k=>by
  subst e
  exact ⟨q,l++y,rfl,j4 h k⟩
 | .int kd::r,b,x,y,⟨n,l,e,hn,h⟩,k=>by
  subst e
  exact ⟨n,l++y,rfl,hn,j4 h k⟩
 | .str::r,b,x,y,⟨n,l,e,hn,h⟩,k=>by
  subst e
  exact ⟨n,l++y,rfl,hn,j4 h k⟩
section
variable {H:Type} {enc:TypeId×Value→H} {P:Program} {w:World} {base:Nat} {spare:Nat→Bool} {held:Bool}
theorem qB {g:TypeId→Option (List LK)} {cs:List Value}
  (ih:∀(t:TypeId) (ks:List LK) (fuel:Nat) (cs:List Value) (x:DataW H×List MemPlace),g t=some ks→DataW.trod enc P w base spare held fuel t cs=some x→∃ds:List D,jC cs=some ds∧pb ks ds∧cs.length=ks.length):
  ∀(r:List Field) (off:Nat) (ks:List LK),nV P g off r=some ks→(∀f∈r,∃fuel x,DataW.trod enc P w base spare held fuel f.type ((cs.drop f.offset).take (P.cellsOf f.type))=some x)→off+ks.length=cs.length→
  ∃ds:List D,jC (cs.drop off)=some ds∧pb ks ds
 | [],off,ks,h,_,hl=>by
  simp only [nV,aak] at h
  subst h
  rw [List.drop_eq_nil_of_le (by simp at hl;omega)]
  exact ⟨[],rfl,rfl⟩
 |f::r,off,ks,h,hf,hl=>by
  rw [nV] at h
  cases hg:g f.type with
  |none=>rw [hg] at h;simp at h
  |some k1=>
   rw [hg] at h
   simp only at h
   cases hb:(aaM f.offset off&&aaM k1.length (P.cellsOf f.type)) with
   |false=>rw [hb] at h;simp at h
   |true=>
    rw [hb] at h
    simp only at h
    rw [Bool.and_eq_true,aaG,aaG] at hb
    obtain ⟨e1,e2⟩:=hb
    cases hr:nV P g (off+k1.length) r with
    |none=>rw [hr] at h;simp at h
    |some k2=>
     rw [hr] at h
     obtain rfl:=aad h
     obtain ⟨fuel,x,ht⟩:=hf f (List.mem_cons_self ..)
     obtain ⟨d1,s1,o1,l1⟩:=ih _ _ _ _ _ hg ht
     obtain ⟨d2,s2,o2⟩:=qB ih r (off+k1.length) k2 hr (fun f' YU=>hf f' (List.mem_cons_of_mem _ YU)) (by rw [← hl,aap];omega)
     refine ⟨d1++d2,?_,j4 o1 o2⟩
     have e:cs.drop off=(cs.drop off).take k1.length++cs.drop (off+k1.length):=by
      rw [← List.drop_drop,List.take_append_drop]
     rw [e]
     refine lD ?_ s2
     rw [e1,← e2] at s1
     exact s1
theorem tf (ks:List LK) (sz:Nat):∀(m:Nat) (cs:List Value),cs.length=m*sz→(∀i,i<m→∃ds:List D,jC ((cs.drop (i*sz)).take sz)=some ds∧pb ks ds)→∃ds:List D,jC cs=some ds∧pb (GD m ks) ds
 |0,cs,hl,_=>by
  have:cs= []:=List.eq_nil_of_length_eq_zero (by simpa using hl)
  subst this
  exact ⟨[],rfl,rfl⟩
 |m+1,cs,hl,h=>by
  obtain ⟨d1,s1,o1⟩:=h 0 (by omega)
  rw [Nat.zero_mul,List.drop_zero] at s1
  obtain ⟨d2,s2,o2⟩:=tf ks sz m (cs.drop sz) (by rw [List.length_drop,hl,Nat.succ_mul];omega) (fun i hi=>by
   have:=h (i+1) (by omega)
   rw [Nat.succ_mul,Nat.add_comm,← List.drop_drop] at this
   exact this)
  refine ⟨d1++d2,?_,j4 o1 o2⟩
  have:=lD s1 s2
  rwa [List.take_append_drop] at this
theorem qc:∀(n:Nat) (t:TypeId) (ks:List LK) (fuel:Nat) (cs:List Value) (x:DataW H×List MemPlace),qA P n t=some ks→DataW.trod enc P w base spare held fuel t cs=some x→
  ∃ds:List D,jC cs=some ds∧pb ks ds∧cs.length=ks.length
 |0,t,ks,fuel,cs,x,h,_=>by simp [qA] at h
 |n+1,t,ks,fuel,cs,x,h,ht=>by
  rw [qA] at h
  split at h
  ·rename_i hu
   obtain rfl:=aad h
   obtain ⟨b,rfl,_⟩:=DataW.trod_bool hu ht
   exact ⟨[ax b],rfl,⟨b,[],rfl,rfl⟩,rfl⟩
  ·rename_i k hu
   obtain rfl:=aad h
   obtain ⟨m,rfl,_,hw⟩:=DataW.trod_int hu ht
   refine ⟨[.int k m],rfl,⟨m,[],rfl,?_,rfl⟩,rfl⟩
   simpa [Lit.wf,IntKind.has] using hw
  ·rename_i fs hu
   cases hg:nV P (qA P n) 0 fs.toList with
   |none=>rw [hg] at h;simp at h
   |some k1=>
    rw [hg] at h
    simp only at h
    cases hb:aaM k1.length (P.cellsOf t) with
    |false=>rw [hb] at h;simp at h
    |true=>
     rw [hb] at h
     obtain rfl:=aad h
     rw [aaG] at hb
     obtain ⟨xs,n',_,_,hl,hxl,hf⟩:=DataW.trod_struct hu ht
     have:=qB (cs:=cs) (qc n) fs.toList 0 k1 hg (by
      intro f YU
      obtain ⟨i,hi,e⟩:=List.getElem_of_mem YU
      have e2:fs[i]? =some f:=by
       rw [← Array.getElem?_toList,aaN hi,e]
      have X9:=hf i f e2
      have Y5:i<xs.length:=by rw [hxl];simpa using hi
      rw [aaN Y5] at X9
      exact ⟨n',xs[i],X9⟩) (by rw [hb,hl];omega)
     obtain ⟨ds,h1,h2⟩:=this
     exact ⟨ds,by simpa using h1,h2,by rw [hl,hb]⟩
  ·rename_i m e hu
   cases hg:qA P n e with
   |none=>rw [hg] at h;simp at h
   |some k1=>
    rw [hg] at h
    simp only at h
    cases hb:(aaM k1.length (P.cellsOf e)&&aaM (m*k1.length) (P.cellsOf t)) with
    |false=>rw [hb] at h;simp at h
    |true=>
     rw [hb] at h
     obtain rfl:=aad h
     rw [Bool.and_eq_true,aaG,aaG] at hb
     obtain ⟨xs,n',_,_,hl,hxl,hf⟩:=DataW.trod_array hu ht
     obtain ⟨ds,h1,h2⟩:=tf k1 (P.cellsOf e) m cs (by rw [hl,← hb.2,hb.1]) (fun i hi=>by
      have X9:=hf i hi
      have Y5:i<xs.length:=by omega
      rw [aaN Y5] at X9
      obtain ⟨ds,s1,o1,_⟩:=qc n e k1 n' _ _ hg X9
      exact ⟨ds,s1,o1⟩)
     exact ⟨ds,h1,h2,by rw [hl,Ag,hb.2]⟩
  ·cases h
theorem Iz {a:Addr} {x y:Nat} {v:Value} (h:w.cell? ((a.add x).add y)=some v):w.cell? ⟨a.block,a.off+x+y,none⟩=some v:=by
 obtain ⟨b,o,sp⟩:=a
 unfold Addr.add at h
 unfold World.cell? at h ⊢
 by_cases hx:x=0
 ·by_cases hy:y=0
  ·subst hx hy
   simp only [if_true] at h
   simp only [Nat.add_zero]
   cases sp with
   |none=>exact h
   |some q=>split at h<;>simp at h
  ·subst hx
   simp only [if_true,if_neg hy] at h
   simpa using h
 ·by_cases hy:y=0
  ·subst hy
   simp only [if_true,if_neg hx] at h
   simpa using h
  ·simp only [if_neg hx,if_neg hy] at h
   simpa using h
theorem pa:∀ {ks:List LK} {ds:List D},pb ks ds→∀c∈ds,storable c=true
 | [],ds,h,c,hc=>by simp only [pb] at h;subst h;simp at hc
 | .bool::r,ds,⟨q,l,e,h⟩,c,hc=>by
  subst e
  rcases List.mem_cons.mp hc with rfl|hc
  ·rfl
  ·exact pa h c hc
 | .int k::r,ds,⟨n,l,e,_,h⟩,c,hc=>by
  subst e
  rcases List.mem_cons.mp hc with rfl|hc
  ·rfl
  ·exact pa h c hc
 | .str::r,ds,⟨n,l,e,_,h⟩,c,hc=>by
  subst e
  rcases List.mem_cons.mp hc with rfl|hc
  ·rfl
  ·exact pa h c hc
theorem mw {t e:TypeId} {ks:List LK} {v:Value} {fuel:Nat} {x:DataW H×List MemPlace} (mk:List D→D) (Wd:∀ds,pb ks ds→(mk ds).cells=some ds) (hs:P.underlying t=some (.slice e)) (hk:qA P 10 e=some ks) (T8:P.cellsOf e=ks.length) (ZE:ks.length≠0)
  (h:DataW.trod enc P w base spare held fuel t [v]=some x):
  ∃xs:List (List D),(∀ds∈xs,pb ks ds)∧(xs.length:Int)≤9223372036854775807∧b7 (gr (BB w)) (.aY .no ks.length (xs.map mk)) v:=by
 rcases open_slice hs h with ⟨h0,_⟩|⟨a,len,cap,m,n,D',Pl,T6,hb,hl,hm,hmm,hx,hi⟩
 ·obtain rfl:=(List.cons.inj h0).1
  refine ⟨[],by simp,by simp,?_⟩
  exact .aY 0 0 (fun _ _=> .nilFunc) rfl (Nat.le_refl _) (by simp) (by simp) (by simp) (by simp) (by simp) trivial
 ·obtain rfl:=(List.cons.inj T6).1
  have hlm:len≤m:=by rw [hmm];split<;>omega
  have hex:∀i,∃ds:List D,i<len→∃Us,w.cells? base (a.add (i*P.cellsOf e)) (P.cellsOf e)=some Us∧jC Us=some ds∧pb ks ds:=by
   intro i
   by_cases T1:i<len
   ·obtain ⟨Us,h1,h2⟩:=hi i (by omega)
    obtain ⟨ds,s1,o1,_⟩:=qc 10 e ks n Us _ hk h2
    exact ⟨ds,fun _=>⟨Us,h1,s1,o1⟩⟩
   ·exact ⟨[],fun q=>absurd q T1⟩
  obtain ⟨F,hF⟩:=Classical.axiomOfChoice hex
  have Xb:∀i,i<len→(F i).length=ks.length:=by
   intro i T1
   obtain ⟨Us,h1,h2,h3⟩:=hF i T1
   rw [(ss (M:=gr (BB w)) h2).1,(World.cells?_some h1).2.1,T8]
  have U8:∀(i:Nat) (y:D),((aao len).map F|>.map mk)[i]? =some y→i<len∧y=mk (F i):=by
   intro i y hy
   rw [aau,aau,Option.map_eq_some_iff] at hy
   obtain ⟨q,hq,rfl⟩:=hy
   rw [Option.map_eq_some_iff] at hq
   obtain ⟨j,hj,rfl⟩:=hq
   have Wg:i<len:=by
    rcases aaA i len with q|q
    ·exact q
    ·rw [aam (by simpa using q)] at hj;cases hj
   rw [List.getElem?_range Wg] at hj
   obtain rfl:=aad hj
   exact ⟨Wg,rfl⟩
  have Uj:∀(i:Nat) (y:D) (cs:List D) (j:Nat) (c:D),((aao len).map F|>.map mk)[i]? =some y→y.cells=some cs→cs[j]? =some c→∃v',w.cell? ⟨a.block,a.off+i*ks.length+j,none⟩=some v'∧∀M,b7 M c v':=by
   intro i y cs j c hy hc hj
   obtain ⟨Wg,rfl⟩:=U8 i y hy
   obtain ⟨Us,h1,h2,h3⟩:=hF i Wg
   rw [Wd _ h3] at hc
   obtain rfl:=aad hc
   have VP:j<ks.length:=by
    rw [← Xb i Wg]
    rcases aaA j (F i).length with q|q
    ·exact q
    ·rw [aam q] at hj;cases hj
   obtain ⟨_,V2,V0⟩:=World.cells?_some h1
   have hv:=V0 j (by rw [T8];exact VP)
   have X6:j<Us.length:=by rw [V2,T8];exact VP
   rw [aaN X6] at hv
   refine ⟨Us[j],by rw [T8] at hv;exact Iz hv,fun M=> ?_⟩
   exact (ss (M:=M) h2).2 j c _ hj (aaN X6)
  refine ⟨(aao len).map F,?_,?_,?_⟩
  ·intro ds ZX
   rw [List.mem_map] at ZX
   obtain ⟨i,hi',rfl⟩:=ZX
   exact (hF i (by simpa using hi')).choose_spec.2.2
  ·have:maxLen=9223372036854775807:=rfl
   simp only [List.length_map,List.length_range]
   omega
  ·refine .aY a.block a.off (fun i j=>(w.cell? ⟨a.block,a.off+i*ks.length+j,none⟩).getD .nilFunc) (by simp) (by omega) ?_ ?_ ?_ ?_ ?_ trivial
   ·intro Ut
    have Wv:0<len:=by
     rcases Nat.eq_zero_or_pos len with q|q
     ·subst q;simp at Ut
     ·exact q
    obtain ⟨Us,h1,h2,h3⟩:=hF 0 Wv
    have hk0:=ZE
    ·obtain ⟨_,V2,V0⟩:=World.cells?_some h1
     have hv:=V0 0 (by rw [T8];omega)
     have XZ:0<Us.length:=by rw [V2,T8];omega
     rw [aaN XZ] at hv
     obtain ⟨b,o,sp⟩:=a
     cases sp with
     |none=>rfl
     |some q=>
      exfalso
      unfold World.cell? Addr.add at hv
      simp only [Nat.zero_mul,if_true] at hv
      split at hv<;>simp at hv
   ·intro i y hy
    obtain ⟨Wg,rfl⟩:=U8 i y hy
    obtain ⟨Us,h1,h2,h3⟩:=hF i Wg
    exact ⟨F i,Wd _ h3,Xb i Wg⟩
   ·intro i y cs j c hy hc hj
    obtain ⟨v',h1,_⟩:=Uj i y cs j c hy hc hj
    show w.cell? ⟨a.block,a.off+i*ks.length+j,none⟩=_
    rw [h1];rfl
   ·intro i y cs j c hy hc hj
    obtain ⟨v',h1,h2⟩:=Uj i y cs j c hy hc hj
    rw [h1]
    exact h2 _
   ·intro i y cs c hy hc hj
    obtain ⟨Wg,rfl⟩:=U8 i y hy
    obtain ⟨Us,h1,h2,h3⟩:=hF i Wg
    rw [Wd _ h3] at hc
    obtain rfl:=aad hc
    exact pa h3 c hj
theorem ou:∀ {ts:List TypeId} {vs:List Value} {ds:List (DataW H)} {ps:List MemPlace},DataW.TrodAll enc P w base spare held ts vs ds ps→∀(i:Nat) (t:TypeId) (v:Value),ts[i]? =some t→vs[i]? =some v→∃(fuel:Nat) (x:DataW H×List MemPlace),DataW.trod enc P w base spare held fuel t v.cells.toList=some x
 | [],vs,ds,ps,h,i,t,v,ht,_=>by simp at ht
 |t0::ts,vs,ds,ps,h,i,t,v,ht,hv=>by
  obtain ⟨v0,vs',d,YR,p,q,rfl,rfl,rfl,h1,h2⟩:=trodAll_cons h
  cases i with
  |zero=>
   simp only [List.getElem?_cons_zero,aak] at ht hv
   subst ht hv
   obtain ⟨fuel,hf⟩:=h1
   exact ⟨fuel,_,hf⟩
  |succ i=>
   simp only [List.getElem?_cons_succ] at ht hv
   exact ou h2 i t v ht hv
end
end Go.Ev
