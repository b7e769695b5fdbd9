import Derived.Deep.Slices
import Derived.ChangeArms
import Derived.OpenShut
import Derived.Test.YtbfpahigdpigpaaGreatS10
open Option.some renaming inj→Xo,injEq→Xv
open List renaming range→Xt,length_append→Xu,getElem?_eq_none→Xy,getElem?_map→XH,getElem?_eq_getElem→XY
open Nat renaming lt_or_ge→XL,beq_eq→XR,beq→XX
/- Contracts and plain laws that a statement's proof leans on (texts merged:EvV). -/
set_option linter.unusedVariables false
set_option linter.unusedSimpArgs false
namespace Go.Ev
open Go Go.RowKit Go.ChangeShapes Go.WideShapes Go.Deep
def nB (P:Program) (g:TypeId→Option (List LK)):Nat→List Field→Option (List LK)
  |_,[]=>some []
  |off,f::r=>match g f.type with
    |some ks=>match XX f.offset off&&XX ks.length (P.cellsOf f.type) with
      |true=>match nB P g (off+ks.length) r with
        |some l=>some (ks++l)
        |none=>none
      |false=>none
    |none=>none
def DG:Nat→List LK→List LK
  |0,_=> []
  |n+1,ks=>ks++DG n ks
def pK (P:Program):Nat→TypeId→Option (List LK)
  |0,_=>none
  |n+1,t=>match P.underlying t with
    |some .bool=>some [.bool]
    |some (.int k)=>some [.int k]
    |some (.struct fs)=>match nB P (pK P n) 0 fs.toList with
      |some ks=>match XX ks.length (P.cellsOf t) with|true=>some ks|false=>none
      |none=>none
    |some (.array m e)=>match pK P n e with
      |some ks=>match XX ks.length (P.cellsOf e)&&XX (m*ks.length) (P.cellsOf t) with|true=>some (DG m ks)|false=>none
      |none=>none
    |_=>none
theorem xY (ks:List LK):∀n,(DG n ks).length=n*ks.length
 |0=>by simp [DG]
 |n+1=>by rw [DG,Xu,xY ks n,Nat.succ_mul];omega
theorem lj:∀ {a b:List Value} {x y:List D},jJ a=some x→jJ b=some y→jJ (a++b)=some (x++y)
 | [],b,x,y,h,k=>by
  simp only [jJ,Xv] at h;subst h;exact k
 |v::r,b,x,y,h,k=>by
  rw [jJ] at h
  split at h
  ·rename_i d l h1 h2
   obtain rfl:=Xo h
   rw [List.cons_append,jJ,h1,lj h2 k]
   rfl
  ·cases h
theorem j7:∀ {a b:List LK} {x y:List D},oh a x→oh b y→oh (a++b) (x++y)
 | [],b,x,y,h,k=>by
  simp only [oh] at h;subst h;exact k
 | .bool::r,b,x,y,⟨q,l,e,h⟩,k=>by
  subst e
  exact ⟨q,l++y,rfl,j7 h k⟩
 | .int kd::r,b,x,y,⟨n,l,e,hn,h⟩,k=>by
  subst e
  exact ⟨n,l++y,rfl,hn,j7 h k⟩
 | .str::r,b,x,y,⟨n,l,e,hn,h⟩,k=>by
  subst e
  exact ⟨n,l++y,rfl,hn,j7 h k⟩
section
variable {H:Type} {enc:TypeId×Value→H} {P:Program} {w:World} {base:Nat} {spare:Nat→Bool} {held:Bool}
theorem pL {g:TypeId→Option (List LK)} {cs:List Value}
  (ih:∀(t:TypeId) (ks:List LK) (fuel:Nat) (cs:List Value) (x:DataW H×List MemPlace),g t=some ks→DataW.trod enc P w base spare held fuel t cs=some x→∃ds:List D,jJ cs=some ds∧oh ks ds∧cs.length=ks.length):
  ∀(r:List Field) (off:Nat) (ks:List LK),nB P g off r=some ks→(∀f∈r,∃fuel x,DataW.trod enc P w base spare held fuel f.type ((cs.drop f.offset).take (P.cellsOf f.type))=some x)→off+ks.length=cs.length→
  ∃ds:List D,jJ (cs.drop off)=some ds∧oh ks ds
 | [],off,ks,h,_,hl=>by
  simp only [nB,Xv] at h
  subst h
  rw [List.drop_eq_nil_of_le (by simp at hl;omega)]
  exact ⟨[],rfl,rfl⟩
 |f::r,off,ks,h,hf,hl=>by
  rw [nB] at h
  cases hg:g f.type with
  |none=>rw [hg] at h;simp at h
  |some k1=>
   rw [hg] at h
   simp only at h
   cases hb:(XX f.offset off&&XX k1.length (P.cellsOf f.type)) with
   |false=>rw [hb] at h;simp at h
   |true=>
    rw [hb] at h
    simp only at h
    rw [Bool.and_eq_true,XR,XR] at hb
    obtain ⟨e1,e2⟩:=hb
    cases hr:nB P g (off+k1.length) r with
    |none=>rw [hr] at h;simp at h
    |some k2=>
     rw [hr] at h
     obtain rfl:=Xo h
     obtain ⟨fuel,x,ht⟩:=hf f (List.mem_cons_self ..)
     obtain ⟨d1,s1,o1,l1⟩:=ih _ _ _ _ _ hg ht
     obtain ⟨d2,s2,o2⟩:=pL ih r (off+k1.length) k2 hr (fun f' WH=>hf f' (List.mem_cons_of_mem _ WH)) (by rw [← hl,Xu];omega)
     refine ⟨d1++d2,?_,j7 o1 o2⟩
     have e:cs.drop off=(cs.drop off).take k1.length++cs.drop (off+k1.length):=by
      rw [← List.drop_drop,List.take_append_drop]
     rw [e]
     refine lj ?_ s2
     rw [e1,← e2] at s1
     exact s1
theorem rX (ks:List LK) (sz:Nat):∀(m:Nat) (cs:List Value),cs.length=m*sz→(∀i,i<m→∃ds:List D,jJ ((cs.drop (i*sz)).take sz)=some ds∧oh ks ds)→∃ds:List D,jJ cs=some ds∧oh (DG m ks) ds
 |0,cs,hl,_=>by
  have:cs= []:=List.eq_nil_of_length_eq_zero (by simpa using hl)
  subst this
  exact ⟨[],rfl,rfl⟩
 |m+1,cs,hl,h=>by
  obtain ⟨d1,s1,o1⟩:=h 0 (by omega)
  rw [Nat.zero_mul,List.drop_zero] at s1
  obtain ⟨d2,s2,o2⟩:=rX ks sz m (cs.drop sz) (by rw [List.length_drop,hl,Nat.succ_mul];omega) (fun i hi=>by
   have:=h (i+1) (by omega)
   rw [Nat.succ_mul,Nat.add_comm,← List.drop_drop] at this
   exact this)
  refine ⟨d1++d2,?_,j7 o1 o2⟩
  have:=lj s1 s2
  rwa [List.take_append_drop] at this
theorem po:∀(n:Nat) (t:TypeId) (ks:List LK) (fuel:Nat) (cs:List Value) (x:DataW H×List MemPlace),pK P n t=some ks→DataW.trod enc P w base spare held fuel t cs=some x→
  ∃ds:List D,jJ cs=some ds∧oh ks ds∧cs.length=ks.length
 |0,t,ks,fuel,cs,x,h,_=>by simp [pK] at h
 |n+1,t,ks,fuel,cs,x,h,ht=>by
  rw [pK] at h
  split at h
  ·rename_i hu
   obtain rfl:=Xo h
   obtain ⟨b,rfl,_⟩:=DataW.trod_bool hu ht
   exact ⟨[ax b],rfl,⟨b,[],rfl,rfl⟩,rfl⟩
  ·rename_i k hu
   obtain rfl:=Xo h
   obtain ⟨m,rfl,_,hw⟩:=DataW.trod_int hu ht
   refine ⟨[.int k m],rfl,⟨m,[],rfl,?_,rfl⟩,rfl⟩
   simpa [Lit.wf,IntKind.has] using hw
  ·rename_i fs hu
   cases hg:nB P (pK P n) 0 fs.toList with
   |none=>rw [hg] at h;simp at h
   |some k1=>
    rw [hg] at h
    simp only at h
    cases hb:XX k1.length (P.cellsOf t) with
    |false=>rw [hb] at h;simp at h
    |true=>
     rw [hb] at h
     obtain rfl:=Xo h
     rw [XR] at hb
     obtain ⟨xs,n',_,_,hl,hxl,hf⟩:=DataW.trod_struct hu ht
     have:=pL (cs:=cs) (po n) fs.toList 0 k1 hg (by
      intro f WH
      obtain ⟨i,hi,e⟩:=List.getElem_of_mem WH
      have e2:fs[i]? =some f:=by
       rw [← Array.getElem?_toList,XY hi,e]
      have Vo:=hf i f e2
      have Wd:i<xs.length:=by rw [hxl];simpa using hi
      rw [XY Wd] at Vo
      exact ⟨n',xs[i],Vo⟩) (by rw [hb,hl];omega)
     obtain ⟨ds,h1,h2⟩:=this
     exact ⟨ds,by simpa using h1,h2,by rw [hl,hb]⟩
  ·rename_i m e hu
   cases hg:pK P n e with
   |none=>rw [hg] at h;simp at h
   |some k1=>
    rw [hg] at h
    simp only at h
    cases hb:(XX k1.length (P.cellsOf e)&&XX (m*k1.length) (P.cellsOf t)) with
    |false=>rw [hb] at h;simp at h
    |true=>
     rw [hb] at h
     obtain rfl:=Xo h
     rw [Bool.and_eq_true,XR,XR] at hb
     obtain ⟨xs,n',_,_,hl,hxl,hf⟩:=DataW.trod_array hu ht
     obtain ⟨ds,h1,h2⟩:=rX k1 (P.cellsOf e) m cs (by rw [hl,← hb.2,hb.1]) (fun i hi=>by
      have Vo:=hf i hi
      have Wd:i<xs.length:=by omega
      rw [XY Wd] at Vo
      obtain ⟨ds,s1,o1,_⟩:=po n e k1 n' _ _ hg Vo
      exact ⟨ds,s1,o1⟩)
     exact ⟨ds,h1,h2,by rw [hl,xY,hb.2]⟩
  ·cases h
theorem Gh {a:Addr} {x y:Nat} {v:Value} (h:w.cell? ((a.add x).add y)=some v):w.cell? ⟨a.block,a.off+x+y,none⟩=some v:=by
 obtain ⟨b,o,sp⟩:=a
 unfold Addr.add at h
 unfold World.cell? at h ⊢
 by_cases hx:x=0
 ·by_cases hy:y=0
  ·subst hx hy
   simp only [if_true] at h
   simp only [Nat.add_zero]
   cases sp with
   |none=>exact h
   |some q=>split at h<;>simp at h
  ·subst hx
   simp only [if_true,if_neg hy] at h
   simpa using h
 ·by_cases hy:y=0
  ·subst hy
   simp only [if_true,if_neg hx] at h
   simpa using h
  ·simp only [if_neg hx,if_neg hy] at h
   simpa using h
theorem og:∀ {ks:List LK} {ds:List D},oh ks ds→∀c∈ds,storable c=true
 | [],ds,h,c,hc=>by simp only [oh] at h;subst h;simp at hc
 | .bool::r,ds,⟨q,l,e,h⟩,c,hc=>by
  subst e
  rcases List.mem_cons.mp hc with rfl|hc
  ·rfl
  ·exact og h c hc
 | .int k::r,ds,⟨n,l,e,_,h⟩,c,hc=>by
  subst e
  rcases List.mem_cons.mp hc with rfl|hc
  ·rfl
  ·exact og h c hc
 | .str::r,ds,⟨n,l,e,_,h⟩,c,hc=>by
  subst e
  rcases List.mem_cons.mp hc with rfl|hc
  ·rfl
  ·exact og h c hc
theorem lY {t e:TypeId} {ks:List LK} {v:Value} {fuel:Nat} {x:DataW H×List MemPlace} (mk:List D→D) (Tz:∀ds,oh ks ds→(mk ds).cells=some ds) (hs:P.underlying t=some (.slice e)) (hk:pK P 10 e=some ks) (QX:P.cellsOf e=ks.length) (WI:ks.length≠0)
  (h:DataW.trod enc P w base spare held fuel t [v]=some x):
  ∃xs:List (List D),(∀ds∈xs,oh ks ds)∧(xs.length:Int)≤9223372036854775807∧cz (gn (zn w)) (.bc .no ks.length (xs.map mk)) v:=by
 rcases open_slice hs h with ⟨h0,_⟩|⟨a,len,cap,m,n,D',Pl,QW,hb,hl,hm,hmm,hx,hi⟩
 ·obtain rfl:=(List.cons.inj h0).1
  refine ⟨[],by simp,by simp,?_⟩
  exact .bc 0 0 (fun _ _=> .nilFunc) rfl (Nat.le_refl _) (by simp) (by simp) (by simp) (by simp) (by simp) trivial
 ·obtain rfl:=(List.cons.inj QW).1
  have hlm:len≤m:=by rw [hmm];split<;>omega
  have hex:∀i,∃ds:List D,i<len→∃Ru,w.cells? base (a.add (i*P.cellsOf e)) (P.cellsOf e)=some Ru∧jJ Ru=some ds∧oh ks ds:=by
   intro i
   by_cases QQ:i<len
   ·obtain ⟨Ru,h1,h2⟩:=hi i (by omega)
    obtain ⟨ds,s1,o1,_⟩:=po 10 e ks n Ru _ hk h2
    exact ⟨ds,fun _=>⟨Ru,h1,s1,o1⟩⟩
   ·exact ⟨[],fun q=>absurd q QQ⟩
  obtain ⟨F,hF⟩:=Classical.axiomOfChoice hex
  have Un:∀i,i<len→(F i).length=ks.length:=by
   intro i QQ
   obtain ⟨Ru,h1,h2,h3⟩:=hF i QQ
   rw [(qV (M:=gn (zn w)) h2).1,(World.cells?_some h1).2.1,QX]
  have Se:∀(i:Nat) (y:D),((Xt len).map F|>.map mk)[i]? =some y→i<len∧y=mk (F i):=by
   intro i y hy
   rw [XH,XH,Option.map_eq_some_iff] at hy
   obtain ⟨q,hq,rfl⟩:=hy
   rw [Option.map_eq_some_iff] at hq
   obtain ⟨j,hj,rfl⟩:=hq
   have TC:i<len:=by
    rcases XL i len with q|q
    ·exact q
    ·rw [Xy (by simpa using q)] at hj;cases hj
   rw [List.getElem?_range TC] at hj
   obtain rfl:=Xo hj
   exact ⟨TC,rfl⟩
  have Rb:∀(i:Nat) (y:D) (cs:List D) (j:Nat) (c:D),((Xt len).map F|>.map mk)[i]? =some y→y.cells=some cs→cs[j]? =some c→∃v',w.cell? ⟨a.block,a.off+i*ks.length+j,none⟩=some v'∧∀M,cz M c v':=by
   intro i y cs j c hy hc hj
   obtain ⟨TC,rfl⟩:=Se i y hy
   obtain ⟨Ru,h1,h2,h3⟩:=hF i TC
   rw [Tz _ h3] at hc
   obtain rfl:=Xo hc
   have SN:j<ks.length:=by
    rw [← Un i TC]
    rcases XL j (F i).length with q|q
    ·exact q
    ·rw [Xy q] at hj;cases hj
   obtain ⟨_,Ti,S7⟩:=World.cells?_some h1
   have hv:=S7 j (by rw [QX];exact SN)
   have Ve:j<Ru.length:=by rw [Ti,QX];exact SN
   rw [XY Ve] at hv
   refine ⟨Ru[j],by rw [QX] at hv;exact Gh hv,fun M=> ?_⟩
   exact (qV (M:=M) h2).2 j c _ hj (XY Ve)
  refine ⟨(Xt len).map F,?_,?_,?_⟩
  ·intro ds W4
   rw [List.mem_map] at W4
   obtain ⟨i,hi',rfl⟩:=W4
   exact (hF i (by simpa using hi')).choose_spec.2.2
  ·have:maxLen=9223372036854775807:=rfl
   simp only [List.length_map,List.length_range]
   omega
  ·refine .bc a.block a.off (fun i j=>(w.cell? ⟨a.block,a.off+i*ks.length+j,none⟩).getD .nilFunc) (by simp) (by omega) ?_ ?_ ?_ ?_ ?_ trivial
   ·intro RR
    have Vp:0<len:=by
     rcases Nat.eq_zero_or_pos len with q|q
     ·subst q;simp at RR
     ·exact q
    obtain ⟨Ru,h1,h2,h3⟩:=hF 0 Vp
    have hk0:=WI
    ·obtain ⟨_,Ti,S7⟩:=World.cells?_some h1
     have hv:=S7 0 (by rw [QX];omega)
     have U0:0<Ru.length:=by rw [Ti,QX];omega
     rw [XY U0] at hv
     obtain ⟨b,o,sp⟩:=a
     cases sp with
     |none=>rfl
     |some q=>
      exfalso
      unfold World.cell? Addr.add at hv
      simp only [Nat.zero_mul,if_true] at hv
      split at hv<;>simp at hv
   ·intro i y hy
    obtain ⟨TC,rfl⟩:=Se i y hy
    obtain ⟨Ru,h1,h2,h3⟩:=hF i TC
    exact ⟨F i,Tz _ h3,Un i TC⟩
   ·intro i y cs j c hy hc hj
    obtain ⟨v',h1,_⟩:=Rb i y cs j c hy hc hj
    show w.cell? ⟨a.block,a.off+i*ks.length+j,none⟩=_
    rw [h1];rfl
   ·intro i y cs j c hy hc hj
    obtain ⟨v',h1,h2⟩:=Rb i y cs j c hy hc hj
    rw [h1]
    exact h2 _
   ·intro i y cs c hy hc hj
    obtain ⟨TC,rfl⟩:=Se i y hy
    obtain ⟨Ru,h1,h2,h3⟩:=hF i TC
    rw [Tz _ h3] at hc
    obtain rfl:=Xo hc
    exact og h3 c hj
theorem nN:∀ {ts:List TypeId} {vs:List Value} {ds:List (DataW H)} {ps:List MemPlace},DataW.TrodAll enc P w base spare held ts vs ds ps→∀(i:Nat) (t:TypeId) (v:Value),ts[i]? =some t→vs[i]? =some v→∃(fuel:Nat) (x:DataW H×List MemPlace),DataW.trod enc P w base spare held fuel t v.cells.toList=some x
 | [],vs,ds,ps,h,i,t,v,ht,_=>by simp at ht
 |t0::ts,vs,ds,ps,h,i,t,v,ht,hv=>by
  obtain ⟨v0,vs',d,VP,p,q,rfl,rfl,rfl,h1,h2⟩:=trodAll_cons h
  cases i with
  |zero=>
   simp only [List.getElem?_cons_zero,Xv] at ht hv
   subst ht hv
   obtain ⟨fuel,hf⟩:=h1
   exact ⟨fuel,_,hf⟩
  |succ i=>
   simp only [List.getElem?_cons_succ] at ht hv
   exact nN h2 i t v ht hv
end
end Go.Ev
