import Derived.Test.YtkpneibifdoecaaGreatT05
import Derived.Test.YtkpneibifdoecaaGreatT07
import Derived.Test.YtkpneibifdoecaaGreatT08
open List renaming replicate→Vt,length_append→Vu,length_set→Vv,length_cons→Vx,length_nil→Vy,length→VD,getD_eq_getElem?_getD→VJ,drop_eq_getElem_cons→VT,map→VY,all_eq_true→V3,getElem?_eq_getElem→V8,drop_length→Wl,getElem?_cons_succ→Wp,mem_cons→Wq,map_cons→Wu
open Bool renaming eq_iff_iff→Vw,and_eq_true→VG,and_true→VM,not_eq_true'→Wn
open Nat renaming le_refl→VF,beq_eq→VZ
open Go renaming IntKind→W3
/- Contracts and plain laws that a statement's proof leans on (texts merged:MdK1,MdK2,MdK3,MdK4,MdMv,MdHo,RF2,MdMw,MW1,MW1A,MW2,MW2A,MW3). -/
set_option linter.unusedVariables false
set_option linter.unusedSimpArgs false
set_option maxRecDepth 100000
set_option maxHeartbeats 8000000
namespace Go.Ev
open Go
def gR.may (x:gR):Bool:=J9 x.kind x.op x.width x.size x.di x.dst x.src x.off x.au
def O2 (l:List gR):List D:=l.map gR.d
def CU (i kind off:Int):Bool:=(kind==3||kind==4)&&(decide (-1099511627776≤i∧i≤1099511627776)&&decide (-1099511627776≤off∧off≤1099511627776))
def AV (i kind off:Int):Int:=if CU i kind off=true then i+1+off else 0
def EG (n:Int):Int→List gR→Option (Int×Int)
  |_,[]=>none
  |i,x::r=>if x.may=false then some (i,31) else if CU i x.kind x.off=true∧¬(0≤AV i x.kind x.off∧AV i x.kind x.off<n) then some (i,32) else EG n (i+1) r
def sS (l:List gR) (i:Nat):Int:=match l[i]? with|some x=>x.kind|none=>0
def L9 (ctx:Int) (l:List gR):Int×Int:=
  if ctx<0∨256<ctx then (0,2) else if l.length<1∨64<l.length then (0,3)
  else match EG l.length 0 l with
    |some r=>r
    |none=>if sS l (l.length - 1)=4∨sS l (l.length - 1)=6 then (0,0) else (l.length - 1,33)
theorem oa (es:List (Int×D)) (n:Int) (v:D) (m:Int):dC (eH es n v) m=if m=n then some v else dC es m:=by
 induction es with
 |nil=>
  by_cases h:m=n
  ·subst h;simp [eH,dC]
  ·have:(m==n)=false:=by simpa using h
   simp [eH,dC,this,h]
 |cons p r ih=>
  obtain ⟨a,d⟩:=p
  rw [eH]
  by_cases hn:n=a
  ·subst hn
   simp only [beq_self_eq_true]
   by_cases h:m=n
   ·subst h;simp [dC]
   ·have:(m==n)=false:=by simpa using h
    simp [dC,this,h]
  ·have e:(n==a)=false:=by simpa using hn
   simp only [e]
   by_cases h:m=a
   ·subst h
    have:¬m=n:=fun q=>hn q.symm
    simp [dC,this]
   ·have e2:(m==a)=false:=by simpa using h
    simp only [dC,e2]
    exact ih
def CY (k:Int):Bool:=k==3||k==4||k==6
def Jk (es:List (Int×D)) (k:Int) (x:gR):List (Int×D):=
  if CU k x.kind x.off=true then eH (if CY x.kind=true then eH es (k+1) (.bool true) else es) (AV k x.kind x.off) (.bool true)
  else if CY x.kind=true then eH es (k+1) (.bool true) else es
def Kr (l:List gR):Nat→List (Int×D)
  |0=> [(0,.bool true)]
  |k+1=>match l[k]? with
    |some x=>Jk (Kr l k) k x
    |none=>Kr l k
def Md (l:List gR) (k:Nat) (i:Int):Bool:=match l[k]? with
  |some x=>(CY x.kind&&i==(k:Int)+1)||(CU k x.kind x.off&&i==AV k x.kind x.off)
  |none=>false
def Kq (l:List gR) (i:Int):Nat→Bool
  |0=>i==0
  |k+1=>Kq l i k||Md l k i
def OS (l:List gR) (i:Int):Bool:=Kq l i l.length
structure Pa (l:List gR):Prop where
  pos:1≤l.length
  le:l.length≤64
  may:∀j (h:j<l.length),l[j].may=true
  OU:∀j (h:j<l.length),CU j l[j].kind l[j].off=true→0≤AV j l[j].kind l[j].off∧AV j l[j].kind l[j].off<l.length
  last:sS l (l.length - 1)=4∨sS l (l.length - 1)=6
theorem z7 {l:List D} {i:Nat} {x:D} (h:(i:Int)<(l.length:Int)):Kt l i [x] (l.set i x):=by
 refine ⟨?_,by simp;omega⟩
 rw [List.set_eq_take_append_cons_drop,if_pos (by omega)]
 rfl
theorem dV {l:List D} {i:Nat} {x:D} (h:∀c∈l,c.clean=true) (hx:x.clean=true):∀c∈l.set i x,c.clean=true:=by
 intro c hc
 rcases List.mem_or_eq_of_mem_set hc with q|rfl
 ·exact h c q
 ·exact hx
theorem fi {l m:List D} (h:∀c∈l,c.clean=true) (hm:m.all D.clean=true):∀c∈l++m,c.clean=true:=by
 intro c hc
 rcases List.mem_append.1 hc with q|q
 ·exact h c q
 ·exact V3.1 hm c q
abbrev Mv:=Int×Int
def eE:List Int→Int→Nat
  | [],_=>0
  |b::r,a=>(if b=a then 1 else 0)+eE r a
theorem wI (a:Int):∀(l m:List Int),eE (l++m) a=eE l a+eE m a
 | [],m=>by simp [eE]
 |b::l,m=>by simp only [List.cons_append,eE,wI a l m];omega
theorem oS (a:Int):∀(l:List Int),0<eE l a↔a∈l
 | []=>by simp [eE]
 |b::l=>by
  rw [eE,Wq,← oS a l]
  by_cases h:b=a
  ·subst h;simp;omega
  ·have:¬a=b:=fun e=>h e.symm
   simp [h,this]
theorem AD (a:Int):∀(l:List Int),eE l a≤l.length
 | []=>by simp [eE]
 |b::l=>by
  have:=AD a l
  rw [eE,Vx]
  by_cases h:b=a<;>simp [h]<;>omega
def dU (all:List Mv):List Mv→Nat→Option Nat
  | [],_=>none
  |p::r,i=>if eE (all.map Prod.snd) p.1=0 then some i else dU all r (i+1)
def ey (sc:Int):Nat→List Mv→List Mv
  |0,_=> []
  |_+1,[]=> []
  |f+1,p::r=>match dU (p::r) (p::r) 0 with
    |some k=>(p::r).getD k (0,0)::ey sc f ((p::r).eraseIdx k)
    |none=>(sc,p.2)::ey sc f ((p::r).map fun q=>if q.2=p.2 then (q.1,sc) else q)
def OM:List Mv→(Int→Int)→Int→Int
  | [],R=>R
  |p::r,R=>OM r fun x=>if x=p.1 then R p.2 else R x
def fU (sc:Int):List Mv→Nat
  | []=>0
  |p::r=>(if p.2=sc then 0 else 1)+fU sc r
theorem m6 (sc:Int):∀l,fU sc l≤l.length
 | []=>by simp [fU]
 |p::r=>by
  have:=m6 sc r
  rw [fU,Vx]
  by_cases h:p.2=sc<;>simp [h]<;>omega
theorem Ae (sc:Int):∀l:List Mv,(∃p∈l,p.2=sc)→fU sc l<l.length
 | [],⟨_,h,_⟩=>by simp at h
 |p::r,⟨q,h,e⟩=>by
  have h1:=m6 sc r
  rw [fU,Vx]
  by_cases hp:p.2=sc
  ·simp [hp];omega
  ·rcases Wq.1 h with rfl|h
   ·exact absurd e hp
   ·have:=Ae sc r ⟨q,h,e⟩
    simp [hp];omega
theorem kB (sc:Int):∀(l:List Mv) (k:Nat),fU sc (l.eraseIdx k)≤fU sc l
 | [],k=>by simp [fU]
 |p::r,0=>by rw [List.eraseIdx_cons_zero,fU];omega
 |p::r,k+1=>by rw [List.eraseIdx_cons_succ,fU,fU];have:=kB sc r k;omega
theorem nP (sc f:Int) (hf:f≠sc):∀(l:List Mv),fU sc (l.map fun q=>if q.2=f then (q.1,sc) else q)≤fU sc l∧((∃p∈l,p.2=f)→fU sc (l.map fun q=>if q.2=f then (q.1,sc) else q)<fU sc l)
 | []=>by simp [fU]
 |p::r=>by
  obtain ⟨h1,h2⟩:=nP sc f hf r
  rw [Wu,fU,fU]
  by_cases h:p.2=f
  ·have:¬p.2=sc:=by rw [h];exact hf
   simp only [h,if_true,hf,if_false]
   constructor<;>(try intro _)<;>omega
  ·simp only [h,if_false]
   refine ⟨by omega,?_⟩
   rintro ⟨q,hq,e⟩
   rcases Wq.1 hq with rfl|hq
   ·exact absurd e h
   ·have:=h2 ⟨q,hq,e⟩;omega
theorem hole:∀(l m:List Int),l.Nodup→(∀a∈l,a∈m)→l.length≤m.length
 | [],m,_,_=>by simp
 |a::l,m,hn,h=>by
  have ha:=h a (by simp)
  have RY:=List.nodup_cons.1 hn
  have:=hole l (m.erase a) RY.2 (fun b hb=>by
   have Px:b≠a:=fun e=>RY.1 (e▸hb)
   exact (List.mem_erase_of_ne Px).2 (h b (by simp [hb])))
  rw [List.length_erase_of_mem ha] at this
  have hp:0<m.length:=List.length_pos_of_mem ha
  rw [Vx];omega
theorem nJ (all:List Mv):∀(l:List Mv) (i:Nat),dU all l i=none→∀p∈l,p.1∈all.map Prod.snd
 | [],_,_,p,hp=>by simp at hp
 |q::r,i,h,p,hp=>by
  rw [dU] at h
  split at h
  ·cases h
  ·rename_i hc
   rcases Wq.1 hp with rfl|hp
   ·exact (oS _ _).1 (by omega)
   ·exact nJ all r (i+1) h p hp
theorem ku (all:List Mv):∀(l:List Mv) (i k:Nat),dU all l i=some k→∃j p,k=i+j∧l[j]? =some p∧p.1∉all.map Prod.snd
 | [],_,_,h=>by simp [dU] at h
 |q::r,i,k,h=>by
  rw [dU] at h
  split at h
  ·rename_i hc
   cases h
   refine ⟨0,q,rfl,rfl,fun hm=> ?_⟩
   have:=(oS _ _).2 hm
   omega
  ·obtain ⟨j,p,e,h1,h2⟩:=ku all r (i+1) k h
   exact ⟨j+1,p,by omega,h1,h2⟩
theorem wE (sc:Int):∀l:List Mv,((l.map Prod.snd).filter fun a=> !(a==sc)).length=fU sc l
 | []=>rfl
 |p::r=>by
  rw [Wu,fU,← wE sc r]
  by_cases h:p.2=sc
  ·simp [h]
  ·simp [h];omega
theorem pV (sc:Int) (l:List Mv) (hn:(l.map Prod.fst).Nodup) (hs:sc∉l.map Prod.fst) (h:dU l l 0=none):∀p∈l,p.2≠sc:=by
 intro p hp e
 have h1:=hole (l.map Prod.fst) ((l.map Prod.snd).filter fun a=> !(a==sc)) hn (fun a ha=>by
  obtain ⟨q,hq,rfl⟩:=List.mem_map.1 ha
  refine List.mem_filter.2 ⟨nJ l l 0 h q hq,?_⟩
  have:q.1≠sc:=fun e=>hs (e▸ha)
  simpa using this)
 rw [wE,List.length_map] at h1
 have:=Ae sc l ⟨p,hp,e⟩
 omega
theorem Co (l:List Mv) (k:Nat):∀q∈l.eraseIdx k,q∈l:=fun q h=>List.mem_of_mem_eraseIdx h
structure mm (sc:Int) (l:List Mv):Prop where
  nd:(l.map Prod.fst).Nodup
  sc:sc∉l.map Prod.fst
  ne:∀p∈l,p.1≠p.2
theorem mm.erase {sc:Int} {l:List Mv} (h:mm sc l) (k:Nat):mm sc (l.eraseIdx k):=by
 have hs:((l.eraseIdx k).map Prod.fst).Sublist (l.map Prod.fst):=(List.eraseIdx_sublist l k).map _
 exact ⟨hs.nodup h.nd,fun q=>h.sc (hs.subset q),fun p hp=>h.ne p (Co l k p hp)⟩
theorem tP (sc f:Int) (l:List Mv):(l.map fun q=>if q.2=f then (q.1,sc) else q).map Prod.fst=l.map Prod.fst:=by
 rw [List.map_map]
 congr 1
 funext q
 by_cases h:q.2=f<;>simp [h]
theorem mm.swap {sc:Int} {l:List Mv} (h:mm sc l) (f:Int):mm sc (l.map fun q=>if q.2=f then (q.1,sc) else q):=by
 refine ⟨by rw [tP];exact h.nd,by rw [tP];exact h.sc,fun p hp=> ?_⟩
 obtain ⟨q,hq,rfl⟩:=List.mem_map.1 hp
 by_cases e:q.2=f
 ·simp only [e,if_true]
  exact fun e2=>h.sc (e2▸List.mem_map_of_mem hq)
 ·simp only [e,if_false]
  exact h.ne q hq
def fO (r:Int):Bool:=decide (0≤r)&&decide (r<16)
def cz (l:List Mv):List D:=l.map fun p=> .agg [.int .i8 p.1,.int .i8 p.2]
def bT:List Mv→List D
  | []=> []
  |p::r=> .int .i8 p.1:: .int .i8 p.2::bT r
theorem ln:∀l m:List Mv,bT (l++m)=bT l++bT m
 | [],m=>rfl
 |p::r,m=>by rw [List.cons_append,bT,bT,ln r m];rfl
theorem ct:∀l:List Mv,(bT l).length=l.length*2
 | []=>rfl
 |p::r=>by rw [bT,Vx,Vx,ct r,Vx];omega
theorem aZ:∀l:List Mv,∀c∈bT l,c.clean=true
 | [],c,h=>by simp [bT] at h
 |p::r,c,h=>by
  rw [bT] at h
  rcases Wq.1 h with rfl|h
  ·rfl
  rcases Wq.1 h with rfl|h
  ·rfl
  exact aZ r c h
theorem aW:∀l:List Mv,(bT l).map D.aG=bT l
 | []=>rfl
 |p::r=>by rw [bT,Wu,Wu,aW r];rfl
theorem ll:∀(l:List Mv) (k:Nat),(bT l).drop (k*2)=bT (l.drop k)
 | [],k=>by simp [bT]
 |p::r,0=>by simp
 |p::r,k+1=>by
  rw [List.drop_succ_cons,← ll r k,bT,show (k+1)*2=k*2+1+1 by omega,List.drop_succ_cons,List.drop_succ_cons]
theorem v5:∀(l:List Mv) (k:Nat),(bT l).take (k*2)=bT (l.take k)
 | [],k=>by simp [bT]
 |p::r,0=>by simp [bT]
 |p::r,k+1=>by
  rw [List.take_succ_cons,bT,bT,← v5 r k,show (k+1)*2=k*2+1+1 by omega,List.take_succ_cons,List.take_succ_cons]
theorem iv {l:List Mv} {k:Nat} (h:k<l.length):eG (bT l) (k*2) 2 [.int .i8 l[k].1,.int .i8 l[k].2]:=by
 refine ⟨?_,by rw [ct];omega⟩
 rw [ll,VT h]
 rfl
theorem qb {l:List Mv} {k:Nat} (h:k≤l.length):eG (bT l) 0 (k*2) (bT (l.take k)):=by
 refine ⟨?_,by rw [ct];omega⟩
 rw [List.drop_zero,v5]
theorem v7 {l:List Mv} {k n:Nat} (hk:k≤l.length) (hn:n=l.length - k):eG (bT l) (k*2) (n*2) (bT (l.drop k)):=by
 subst hn
 refine ⟨?_,by rw [ct];omega⟩
 rw [ll,List.take_of_length_le]
 rw [ct,List.length_drop]
 omega
theorem jz:∀(l:List Mv) (k:Nat) (h:k<l.length),(bT l)[k*2+1]? =some (.int .i8 l[k].2)
 |p::r,0,h=>rfl
 |p::r,k+1,h=>by
  rw [bT,show (k+1)*2+1=(k*2+1)+1+1 by omega,Wp,Wp]
  exact jz r k (by simpa using h)
theorem sM:∀(l:List Mv) (k:Nat) (h:k<l.length) (v:Int),(bT l).set (k*2+1) (.int .i8 v)=bT (l.set k (l[k].1,v))
 |p::r,0,h,v=>rfl
 |p::r,k+1,h,v=>by
  rw [bT,show (k+1)*2+1=(k*2+1)+1+1 by omega,List.set_cons_succ,List.set_cons_succ,List.set_cons_succ,bT,sM r k (by simpa using h) v]
  rfl
theorem jU (es:List (Int×D)) (a:Int) (v:D):dC (eH es a v) a=some v:=by rw [oa,if_pos rfl]
theorem g3 (es:List (List D×D)) (a b:Int) (v:D):gr (fN es [.int .i8 a,.int .i8 b] v) [.int .i8 a,.int .i8 b]=some v:=by
 have e:aa [D.int .i8 a,D.int .i8 b] [D.int .i8 a,D.int .i8 b]=true:=by simp [aa,ab]
 induction es with
 |nil=>simp only [fN,gr,e]
 |cons p r ih=>
  obtain ⟨x,d⟩:=p
  rw [fN]
  cases h:aa [D.int .i8 a,D.int .i8 b] x with
  |true=>simp only [gr,e]
  |false=>simp only [gr,h];exact ih
def wJ (l:List Int) (a:Int):Option D:=if eE l a=0 then none else some (.int .i64 (eE l a:Int))
def jk:List Int→List (Int×D)
  | []=> []
  |b::l=>eH (jk l) b (.int .i64 (eE (b::l) b:Int))
theorem iB:∀(l:List Int) (a:Int),dC (jk l) a=wJ l a
 | [],a=>rfl
 |b::l,a=>by
  rw [jk,oa]
  by_cases h:a=b
  ·subst h
   have:¬eE (a::l) a=0:=by rw [eE,if_pos rfl];omega
   rw [if_pos rfl,wJ,if_neg this]
  ·have hb:¬b=a:=fun e=>h e.symm
   rw [if_neg h,iB l a,wJ,wJ,eE,if_neg hb,Nat.zero_add]
theorem ew {l:List D} {i n:Nat} {l':List D} (h:eG l i n l'):eG l i n l':=h
theorem qa {n:Nat} :Nat.beq n n=true:=by rw [VZ]
theorem dm {l m:List D} (h:∀c∈l,c.clean=true) (hm:∀c∈m,c.clean=true):∀c∈l++m,c.clean=true:=by
 intro c hc
 rcases List.mem_append.1 hc with q|q
 ·exact h c q
 ·exact hm c q
theorem wN {l:List D} {r:Nat} (h:l.length=r*2):Nat.beq l.length (r*2)=true:=by
 rw [VZ];exact h
def lY (seen:List Int):List Mv→Bool
  | []=>true
  |p::r=> !(seen.contains p.1)&&(fO p.1&&(fO p.2&&lY (p.1::seen) r))
def jx:List Int→List (Int×D)
  | []=> []
  |b::s=>eH (jx s) b (.int .i64 1)
theorem iJ:∀(s:List Int) (a:Int),dC (jx s) a=if s.contains a=true then some (.int .i64 1) else none
 | [],a=>rfl
 |b::s,a=>by
  rw [jx,oa,iJ s a]
  by_cases h:a=b
  ·subst h;simp
  ·have:(a==b)=false:=by simpa using h
   simp [List.contains_cons,this,h]
def ofM (sc:Int) (l:List Mv):Bool:=l.all fun p=> !(p.1==sc)&& !(p.2==sc)
def gX (l:List Mv) (sc:Int):Bool:=ofM sc l&&(fO sc&&lY [] l)
theorem D4:∀(l:List Mv) (seen:List Int),lY seen l=true→(l.map Prod.fst).Nodup∧(∀p∈l,p.1∉seen)∧∀p∈l,fO p.1=true∧fO p.2=true
 | [],seen,_=>⟨by simp,fun p h=>by simp at h,fun p h=>by simp at h⟩
 |p::r,seen,h=>by
  simp only [lY,VG,Wn,List.contains_eq_mem,decide_eq_false_iff_not] at h
  obtain ⟨h1,h2,h3,h4⟩:=h
  obtain ⟨i1,i2,i3⟩:=D4 r (p.1::seen) h4
  refine ⟨?_,?_,?_⟩
  ·rw [Wu,List.nodup_cons]
   refine ⟨fun hm=> ?_,i1⟩
   obtain ⟨q,hq,e⟩:=List.mem_map.1 hm
   exact i2 q hq (by rw [e];simp)
  ·intro q hq
   rcases Wq.1 hq with rfl|hq
   ·exact h1
   ·exact fun e=>i2 q hq (by simp [e])
  ·intro q hq
   rcases Wq.1 hq with rfl|hq
   ·exact ⟨h2,h3⟩
   ·exact i3 q hq
def bF (l:List Mv):List Mv:=l.filter fun p=> !(p.1==p.2)
theorem wh {l:List Mv} {sc:Int} (h:gX l sc=true):mm sc (bF l):=by
 simp only [gX,VG,ofM,V3,Wn,beq_eq_false_iff_ne] at h
 obtain ⟨h1,h2,h3⟩:=h
 obtain ⟨n1,_,_⟩:=D4 l [] h3
 have hs:((bF l).map Prod.fst).Sublist (l.map Prod.fst):=(List.filter_sublist).map _
 refine ⟨hs.nodup n1,fun hm=> ?_,fun p hp=> ?_⟩
 ·obtain ⟨p,hp,e⟩:=List.mem_map.1 (hs.subset hm)
  exact (h1 p hp).1 e
 ·have:=(List.mem_filter.1 hp).2
  simpa using this
def Nu (x:XS):D:=xD x.op x.w x.dst x.src x.base x.ai x.au x.cc
def mX:Nat→Int
  |0=>7
  |1=>6
  |2=>2
  |3=>10
  |_=>8
abbrev kS:List D:= [.int .i8 7,.int .i8 6,.int .i8 2,.int .i8 10,.int .i8 8]
theorem re {k:Nat} (h:k<5):kS[0+Int.toNat (k:Int)*1]? =some (.int .i8 (mX k)):=by
 have:k=0∨k=1∨k=2∨k=3∨k=4:=by omega
 rcases this with rfl|rfl|rfl|rfl|rfl<;>rfl
def fI (p:ae):Nat→Nat→List Mv
  |0,_=> []
  |m+1,k=>if (p.k ((k+1:Nat):Int)==1)=true then (mX k,p.n ((k+1:Nat):Int))::fI p m (k+1) else fI p m (k+1)
def wj (to k n:Int):XS:=if (k==2)=true then ⟨26,64,to,0,4,8*n,0,0⟩ else ⟨1,32,to,0,0,0,0,0⟩
def mF (p:ae):Nat→Nat→List XS
  |0,_=> []
  |m+1,k=>if (p.k ((k+1:Nat):Int)==1)=true then mF p m (k+1) else wj (mX k) (p.k ((k+1:Nat):Int)) (p.n ((k+1:Nat):Int))::mF p m (k+1)
def j6 (q:Mv):XS:=⟨0,64,q.1,q.2,0,0,0,0⟩
def cd (num:Int):Nat:=num.toNat%6
def IB (p:ae) (n:Nat):List Mv:=ey 11 (2*(fI p n 0).length) (bF (fI p n 0))
def Eo (p:ae) (num:Int):List XS:=(IB p (cd num)).map j6++(mF p (cd num) 0++ [⟨1,32,0,0,0,0,num,0⟩,⟨31,0,0,0,0,0,0,0⟩])
theorem sV (p:ae):∀m k,(fI p m k).length≤m
 |0,_=>VF _
 |m+1,k=>by
  have:=sV p m (k+1)
  rw [fI]
  split
  ·rw [Vx];omega
  ·omega
theorem sR (p:ae):∀m k,(mF p m k).length≤m
 |0,_=>VF _
 |m+1,k=>by
  have:=sR p m (k+1)
  rw [mF]
  split
  ·omega
  ·rw [Vx];omega
theorem HI {j k:Nat} (h:j<5) (h2:k<j):mX j≠mX k:=by
 have:j=1∨j=2∨j=3∨j=4:=by omega
 have:k=0∨k=1∨k=2∨k=3:=by omega
 rcases ‹j=1∨_› with rfl|rfl|rfl|rfl<;>rcases ‹k=0∨_› with rfl|rfl|rfl|rfl<;>first|omega|decide
theorem CS (k:Nat):2≤mX k∧mX k≤10:=by
 match k with
 |0=>decide
 |1=>decide
 |2=>decide
 |3=>decide
 |_+4=>exact ⟨by show (2:Int)≤8;decide,by show (8:Int)≤10;decide⟩
theorem Dg {n:Int} (h0:0≤n) (h1:n<16):fO n=true:=by simp [fO,h0,h1]
theorem Er {p:ae} (hp:p.may=true):∀(m k:Nat) (seen:List Int),k+m≤5→(∀j,k≤j→j<5→mX j∉seen)→lY seen (fI p m k)=true
 |0,_,_,_,_=>rfl
 |m+1,k,seen,hk,hs=>by
  rw [fI]
  split
  ·rename_i h1
   have ho:=dw (ae.fb hp (i:=((k+1:Nat):Int)) (by omega) (by omega))
   have h1':p.k ((k+1:Nat):Int)=1:=by simpa using h1
   have ht:=CS k
   rw [lY,Dg (by omega) (by omega),Dg (by omega) (by omega),Er hp m (k+1) (mX k::seen) (by omega) (fun j h2 h3=>by
    rw [Wq]
    rintro (e|e)
    ·exact HI h3 (by omega) e
    ·exact hs j (by omega) h3 e)]
   have:=hs k (VF _) (by omega)
   simpa using this
  ·exact Er hp m (k+1) seen (by omega) (fun j h2 h3=>hs j (by omega) h3)
theorem Ep {p:ae} (hp:p.may=true):∀(m k:Nat),k+m≤5→ofM 11 (fI p m k)=true
 |0,_,_=>rfl
 |m+1,k,hk=>by
  rw [fI]
  split
  ·rename_i h1
   have ho:=dw (ae.fb hp (i:=((k+1:Nat):Int)) (by omega) (by omega))
   have h1':p.k ((k+1:Nat):Int)=1:=by simpa using h1
   have ht:=CS k
   have ih:=Ep hp m (k+1) (by omega)
   unfold ofM at ih ⊢
   rw [List.all_cons,ih]
   simp only [VM,VG,Wn,beq_eq_false_iff_ne]
   omega
  ·exact Ep hp m (k+1) (by omega)
theorem Es {p:ae} (hp:p.may=true) {n:Nat} (h:n≤5):gX (fI p n 0) 11=true:=by
 unfold gX
 rw [Ep hp n 0 (by omega),Er hp n 0 [] (by omega) (fun _ _ _=>by simp)]
 rfl
end Go.Ev
namespace Go.Proofs.YtkpneibifdoecaaGreat
open Go Go.Ev
theorem HK (l:List D) (k:Nat) (hb:l.length≤10000) (h:l.length≤k):ak Tryz.prog (aC Tryz.f14 0) ⟨[],[],[]⟩ 0 [.aq .no 8 l,.aq .no 8 l,uu,uu,uu,.int .i64 (↑k:Int),uu,uu,uu,uu,uu,uu,uu,uu,uu,uu,uu,uu,uu,uu,uu,uu,uu,uu,uu,uu] [] (.exit 0) [uu,uu,uu,uu,uu,uu,uu,uu,uu,uu,uu,uu,uu,uu,uu,uu,uu,uu,uu,uu,uu,uu,uu,uu,uu,uu] ([]):=by
 exact (ak.ao (sp:=⟨[],[],[]⟩) (n0:=0) (ex:=Ex.exit (0:Nat)) (t':= [uu,uu,uu,uu,uu,uu,uu,uu,uu,uu,uu,uu,uu,uu,uu,uu,uu,uu,uu,uu,uu,uu,uu,uu,uu,uu]) (s':= []) mixed [tC (by ((try simp only [Vu,Vx,Vy,dD,aY,decide_eq_true_eq,decide_eq_false_iff_not,beq_iff_eq,bne_iff_ne,beq_eq_false_iff_ne] at*);omega):(decide ((↑k:Int)<(↑(VD l):Int)))=false)] (by kernel_rfl)).cast (by rfl) (by rfl)
theorem Jh (l:List D) (k:Nat) (hb:l.length≤10000) (h:k<l.length) (op w dst src base ai au Vi:Int) (hx:l[k]? =some (xD op w dst src base ai au Vi)):ak Tryz.prog (aC Tryz.f14 0) ⟨[0,1,5],[],[]⟩ 0 [.aq .no 8 l,.aq .no 8 l,uu,uu,uu,.int .i64 (↑k:Int),uu,uu,uu,uu,uu,uu,uu,uu,uu,uu,uu,uu,uu,uu,uu,uu,uu,uu,uu,uu] [] .norm [.aq .no 8 l,.aq .no 8 l,uu,uu,uu,.int .i64 (W3.i64.wrap ((↑k:Int)+1)),uu,uu,uu,uu,uu,uu,uu,uu,uu,uu,uu,uu,uu,uu,uu,uu,uu,uu,uu,uu] ([]):=by
 exact (ak.ao (sp:=⟨[0,1,5],[],[]⟩) (n0:=0) (ex:=Ex.norm) (t':= [.aq .no 8 l,.aq .no 8 l,uu,uu,uu,.int .i64 (W3.i64.wrap ((↑k:Int)+1)),uu,uu,uu,uu,uu,uu,uu,uu,uu,uu,uu,uu,uu,uu,uu,uu,uu,uu,uu,uu]) (s':= []) mixed [tC (by ((try simp only [Vu,Vx,Vy,dD,aY,decide_eq_true_eq,decide_eq_false_iff_not,beq_iff_eq,bne_iff_ne,beq_eq_false_iff_ne] at*);omega):(decide ((↑k:Int)<(↑(VD l):Int)))=true),tT,.get _ _ _ hx,tT,.get _ _ _ hx,.flat _ _ cD,tC (nt (aD (beq_self_eq_true op) (aD (beq_self_eq_true w) (aD (beq_self_eq_true dst) (aD (beq_self_eq_true src) (aD (beq_self_eq_true base) (aD (beq_self_eq_true ai) (aD (beq_self_eq_true au) (aD (beq_self_eq_true Vi) (rfl:true=true))))))))))] (by kernel_rfl)).cast (by rfl) (by rfl)
theorem HQ (l:List D) (k:Nat) (hb:l.length≤10000) (h:l.length≤k):ak Tryz.prog (aC Tryz.f11 0) ⟨[],[],[]⟩ 0 [.aq .no 13 l,.aq .no 13 l,uu,uu,uu,.int .i64 (↑k:Int),uu,uu,uu,uu,uu,uu,uu,uu,uu,uu,uu,uu,uu,uu,uu,uu,uu,uu,uu,uu] [] (.exit 0) [uu,uu,uu,uu,uu,uu,uu,uu,uu,uu,uu,uu,uu,uu,uu,uu,uu,uu,uu,uu,uu,uu,uu,uu,uu,uu] ([]):=by
 exact (ak.ao (sp:=⟨[],[],[]⟩) (n0:=0) (ex:=Ex.exit (0:Nat)) (t':= [uu,uu,uu,uu,uu,uu,uu,uu,uu,uu,uu,uu,uu,uu,uu,uu,uu,uu,uu,uu,uu,uu,uu,uu,uu,uu]) (s':= []) mixed [tC (by ((try simp only [Vu,Vx,Vy,dD,aY,decide_eq_true_eq,decide_eq_false_iff_not,beq_iff_eq,bne_iff_ne,beq_eq_false_iff_ne] at*);omega):(decide ((↑k:Int)<(↑(VD l):Int)))=false)] (by kernel_rfl)).cast (by rfl) (by rfl)
theorem Jm (l:List D) (k:Nat) (hb:l.length≤10000) (h:k<l.length) (i0 i1 i2 i3 i4 i5 i6 i7 i8 i9 ia ib ic:Int) (hx:l[k]? =some (e6 i0 i1 i2 i3 i4 i5 i6 i7 i8 i9 ia ib ic)):ak Tryz.prog (aC Tryz.f11 0) ⟨[0,1,5],[],[]⟩ 0 [.aq .no 13 l,.aq .no 13 l,uu,uu,uu,.int .i64 (↑k:Int),uu,uu,uu,uu,uu,uu,uu,uu,uu,uu,uu,uu,uu,uu,uu,uu,uu,uu,uu,uu] [] .norm [.aq .no 13 l,.aq .no 13 l,uu,uu,uu,.int .i64 (W3.i64.wrap ((↑k:Int)+1)),uu,uu,uu,uu,uu,uu,uu,uu,uu,uu,uu,uu,uu,uu,uu,uu,uu,uu,uu,uu] ([]):=by
 exact (ak.ao (sp:=⟨[0,1,5],[],[]⟩) (n0:=0) (ex:=Ex.norm) (t':= [.aq .no 13 l,.aq .no 13 l,uu,uu,uu,.int .i64 (W3.i64.wrap ((↑k:Int)+1)),uu,uu,uu,uu,uu,uu,uu,uu,uu,uu,uu,uu,uu,uu,uu,uu,uu,uu,uu,uu]) (s':= []) mixed [tC (by ((try simp only [Vu,Vx,Vy,dD,aY,decide_eq_true_eq,decide_eq_false_iff_not,beq_iff_eq,bne_iff_ne,beq_eq_false_iff_ne] at*);omega):(decide ((↑k:Int)<(↑(VD l):Int)))=true),tT,.get _ _ _ hx,tT,.get _ _ _ hx,.flat _ _ cf,tC (nt (aD (beq_self_eq_true i0) (aD (beq_self_eq_true i1) (aD (beq_self_eq_true i2) (aD (beq_self_eq_true i3) (aD (beq_self_eq_true i4) (aD (beq_self_eq_true i5) (aD (beq_self_eq_true i6) (aD (beq_self_eq_true i7) (aD (beq_self_eq_true i8) (aD (beq_self_eq_true i9) (aD (beq_self_eq_true ia) (aD (beq_self_eq_true ib) (aD (beq_self_eq_true ic) (rfl:true=true)))))))))))))))] (by kernel_rfl)).cast (by rfl) (by rfl)
theorem xz (to k n:Int) (h1:(k==1)=false) (h2:(k==2)=true):aJ Tryz.prog 41 ([.int .i8 to,.agg [.int .i8 k,.int .i8 n]]) (xD 26 64 to 0 4 (W3.i64.wrap (8*W3.i64.wrap n)) 0 0):=by
 exact (Ng (d:=(xD 26 64 to 0 4 (W3.i64.wrap (8*W3.wrap W3.i64 n)) 0 0)) [tC h1,tC (bS 2 true (eq_of_beq h2)),.inl] (by kernel_rfl)).to (by simp [wk,ay,aB])
theorem xA (to k n:Int) (h1:(k==1)=false) (h2:(k==2)=false):aJ Tryz.prog 41 ([.int .i8 to,.agg [.int .i8 k,.int .i8 n]]) (xD 1 32 to 0 0 0 0 0):=by
 exact (Ng (d:=(xD 1 32 to 0 0 0 0 0)) [tC h1,tC h2,.inl] (by kernel_rfl)).to (by simp [wk,ay,aB])
theorem Df (to n:Int):aJ Tryz.prog 50 ([.int .i8 to,.int .i64 n]) (xD 1 32 to 0 0 0 n 0):=by
 exact (Oi (d:=(xD 1 32 to 0 0 0 n 0)) [] (by kernel_rfl)).to (by simp [wk,ay,aB])
theorem Fx (a b:Int):aJ Tryz.prog 44 ([.int .i8 a,.int .i8 b]) (xD 0 64 a b 0 0 0 0):=by
 exact (Ol (d:=(xD 0 64 a b 0 0 0 0)) [] (by kernel_rfl)).to (by simp [wk,ay,aB])
end Go.Proofs.YtkpneibifdoecaaGreat
namespace Go.Ev
open Go
def pR (a:Int) (i:Nat):List Mv→Nat→Bool
  | [],_=>true
  |p::r,k=>(decide (k=i)|| !(p.2==a))&&pR a i r (k+1)
theorem Aw (a:Int) (i:Nat):∀(l:List Mv) (k:Nat),(∀p,l[i - k]? =some p→k≤i→p.2≠a)→(pR a i l k=true↔eE (l.map Prod.snd) a=0)
 | [],k,_=>by simp [pR,eE]
 |p::r,k,h=>by
  have ih:=Aw a i r (k+1) (fun q hq hk=>h q (by rw [show i - k=(i - (k+1))+1 by omega];exact hq) (by omega))
  rw [pR,Wu,eE,VG,ih]
  by_cases hp:p.2=a
  ·have Ub:k≠i:=fun e=>h p (by rw [e,Nat.sub_self];rfl) (by omega) hp
   simp [hp,Ub]
  ·simp [hp]
def y9 (all:List Mv):List Mv→Nat→Option Nat
  | [],_=>none
  |p::r,i=>if pR p.1 i all 0=true then some i else y9 all r (i+1)
theorem sZ (all:List Mv) (ne:∀p∈all,p.1≠p.2):∀(n i:Nat),n+i=all.length→y9 all (all.drop i) i=dU all (all.drop i) i
 |0,i,h=>by rw [List.drop_of_length_le (by omega)];rfl
 |n+1,i,h=>by
  have Pd:i<all.length:=by omega
  rw [VT Pd,y9,dU,sZ all ne n (i+1) (by omega)]
  have e:=Aw all[i].1 i all 0 (fun p hp _=>by
   rw [Nat.sub_zero,V8 Pd] at hp
   cases hp
   exact fun q=>ne _ (List.getElem_mem Pd) q.symm)
  by_cases hc:eE (all.map Prod.snd) all[i].1=0
  ·rw [if_pos (e.2 hc),if_pos hc]
  ·rw [if_neg (fun q=>hc (e.1 q)),if_neg hc]
end Go.Ev
namespace Go.Proofs.YtkpneibifdoecaaGreat
open Go Go.Ev
theorem fw (r:Int):aJ Tryz.prog 97 ([.int .i8 r]) (.bool (fO r)):=by
 rcases cm (decide (r<0)) with h0|h0
 ·exact (Na (d:= .bool false) [tC (eT (aK 0 h0)),tC (eT (aK 0 h0)),tC (aK 0 h0)] (by kernel_rfl)).to (by (try simp only [bI,wk,ay,aB,aa,ab,fO] at*);first|(simp [wk,ay,aB,aa,ab,fO, *];done)|(simp [wk,ay,aB,aa,ab,fO, *];omega)|(rw [Vw];simp [wk,ay,aB,aa,ab,fO, *];done)|(rw [Vw];simp [wk,ay,aB,aa,ab,fO, *];omega)|(rw [Vw];simp [wk,ay,aB,aa,ab,fO, *];grind)|(subst_vars;rw [Vw];simp;grind))
 exact (Na (d:= .bool (decide (r<16))) [tC (eT (aK 0 h0)),tC (eT (aK 0 h0)),tC (aK 0 h0)] (by kernel_rfl)).to (by (try simp only [bI,wk,ay,aB,aa,ab,fO] at*);first|(simp [wk,ay,aB,aa,ab,fO, *];done)|(simp [wk,ay,aB,aa,ab,fO, *];omega)|(rw [Vw];simp [wk,ay,aB,aa,ab,fO, *];done)|(rw [Vw];simp [wk,ay,aB,aa,ab,fO, *];omega)|(rw [Vw];simp [wk,ay,aB,aa,ab,fO, *];grind)|(subst_vars;rw [Vw];simp;grind))
theorem Ht (l:List D) (m k:Nat) (hl:l.length=m) (hm:m≤64) (sc:Int) (h:m≤k):ak Tryz.prog (aC Tryz.f67 0) ⟨[],[],[]⟩ 2 [.aq .no 2 l,.int .i8 sc,uu,uu,uu,.int .i64 (↑k:Int),uu,uu,uu,uu,uu,uu,uu,uu,uu,uu,uu,uu,uu,uu,uu,uu,uu,uu,uu,uu,uu,uu,uu,uu,uu,uu,uu,uu,uu,uu] [.dead,.dead] (.exit 0) [uu,uu,uu,uu,uu,uu,uu,uu,uu,uu,uu,uu,uu,uu,uu,uu,uu,uu,uu,uu,uu,uu,uu,uu,uu,uu,uu,uu,uu,uu,uu,uu,uu,uu,uu,uu] ([.dead,.dead]):=by
 exact (ak.ao (sp:=⟨[],[],[]⟩) (n0:=2) (ex:=Ex.exit (0:Nat)) (t':= [uu,uu,uu,uu,uu,uu,uu,uu,uu,uu,uu,uu,uu,uu,uu,uu,uu,uu,uu,uu,uu,uu,uu,uu,uu,uu,uu,uu,uu,uu,uu,uu,uu,uu,uu,uu]) (s':= [.dead,.dead]) mixed [tC (by ((try simp only [Vu,Vx,Vy,Vv,bm] at*);(try unfold bn at*);omega):(decide ((↑k:Int)<(↑(VD l):Int)))=false)] (by kernel_rfl)).cast (by rfl) (by rfl)
theorem KW (l:List D) (m k:Nat) (hl:l.length=m) (hm:m≤64) (sc:Int) (hk:k<m) (a b:Int) (hx:l[k]? =some (.agg [.int .i8 a,.int .i8 b])) (h1:(a==sc)=true):ak Tryz.prog (aC Tryz.f67 0) ⟨[4],[],[]⟩ 2 [.aq .no 2 l,.int .i8 sc,uu,uu,uu,.int .i64 (↑k:Int),uu,uu,uu,uu,uu,uu,uu,uu,uu,uu,uu,uu,uu,uu,uu,uu,uu,uu,uu,uu,uu,uu,uu,uu,uu,uu,uu,uu,uu,uu] [.dead,.dead] (Ex.ret) [uu,uu,uu,uu,.bool false,uu,uu,uu,uu,uu,uu,uu,uu,uu,uu,uu,uu,uu,uu,uu,uu,uu,uu,uu,uu,uu,uu,uu,uu,uu,uu,uu,uu,uu,uu,uu] ([.dead,.dead]):=by
 exact (ak.ao (sp:=⟨[4],[],[]⟩) (n0:=2) (ex:=Ex.ret) (t':= [uu,uu,uu,uu,.bool false,uu,uu,uu,uu,uu,uu,uu,uu,uu,uu,uu,uu,uu,uu,uu,uu,uu,uu,uu,uu,uu,uu,uu,uu,uu,uu,uu,uu,uu,uu,uu]) (s':= [.dead,.dead]) mixed ([tC (by ((try simp only [Vu,Vx,Vy,Vv,bm] at*);(try unfold bn at*);omega):(decide ((↑k:Int)<(↑(VD l):Int)))=true),tT,.get _ _ _ hx]++Vt 7 (tC (eF h1))++ [tC h1,tT]) (by kernel_rfl)).cast (by rfl) (by rfl)
theorem KV (l:List D) (m k:Nat) (hl:l.length=m) (hm:m≤64) (sc:Int) (hk:k<m) (a b:Int) (hx:l[k]? =some (.agg [.int .i8 a,.int .i8 b])) (h1:(a==sc)=false) (h2:(b==sc)=true):ak Tryz.prog (aC Tryz.f67 0) ⟨[4],[],[]⟩ 2 [.aq .no 2 l,.int .i8 sc,uu,uu,uu,.int .i64 (↑k:Int),uu,uu,uu,uu,uu,uu,uu,uu,uu,uu,uu,uu,uu,uu,uu,uu,uu,uu,uu,uu,uu,uu,uu,uu,uu,uu,uu,uu,uu,uu] [.dead,.dead] (Ex.ret) [uu,uu,uu,uu,.bool false,uu,uu,uu,uu,uu,uu,uu,uu,uu,uu,uu,uu,uu,uu,uu,uu,uu,uu,uu,uu,uu,uu,uu,uu,uu,uu,uu,uu,uu,uu,uu] ([.dead,.dead]):=by
 exact (ak.ao (sp:=⟨[4],[],[]⟩) (n0:=2) (ex:=Ex.ret) (t':= [uu,uu,uu,uu,.bool false,uu,uu,uu,uu,uu,uu,uu,uu,uu,uu,uu,uu,uu,uu,uu,uu,uu,uu,uu,uu,uu,uu,uu,uu,uu,uu,uu,uu,uu,uu,uu]) (s':= [.dead,.dead]) mixed ([tC (by ((try simp only [Vu,Vx,Vy,Vv,bm] at*);(try unfold bn at*);omega):(decide ((↑k:Int)<(↑(VD l):Int)))=true),tT,.get _ _ _ hx,tC (eF h1),tC (eF h1),tC (eF h1),tT,.get _ _ _ hx]++Vt 4 (tC (eF h1))++ [tC h1,tC h2]) (by kernel_rfl)).cast (by rfl) (by rfl)
theorem GR (l:List D) (m k:Nat) (hl:l.length=m) (hm:m≤64) (sc:Int) (hk:k<m) (a b:Int) (hx:l[k]? =some (.agg [.int .i8 a,.int .i8 b])) (h1:(a==sc)=false) (h2:(b==sc)=false):ak Tryz.prog (aC Tryz.f67 0) ⟨[0,1,5],[],[]⟩ 2 [.aq .no 2 l,.int .i8 sc,uu,uu,uu,.int .i64 (↑k:Int),uu,uu,uu,uu,uu,uu,uu,uu,uu,uu,uu,uu,uu,uu,uu,uu,uu,uu,uu,uu,uu,uu,uu,uu,uu,uu,uu,uu,uu,uu] [.dead,.dead] .norm [.aq .no 2 l,.int .i8 sc,uu,uu,uu,.int .i64 (W3.i64.wrap ((↑k:Int)+1)),uu,uu,uu,uu,uu,uu,uu,uu,uu,uu,uu,uu,uu,uu,uu,uu,uu,uu,uu,uu,uu,uu,uu,uu,uu,uu,uu,uu,uu,uu] ([.dead,.dead]):=by
 exact (ak.ao (sp:=⟨[0,1,5],[],[]⟩) (n0:=2) (ex:=Ex.norm) (t':= [.aq .no 2 l,.int .i8 sc,uu,uu,uu,.int .i64 (W3.i64.wrap ((↑k:Int)+1)),uu,uu,uu,uu,uu,uu,uu,uu,uu,uu,uu,uu,uu,uu,uu,uu,uu,uu,uu,uu,uu,uu,uu,uu,uu,uu,uu,uu,uu,uu]) (s':= [.dead,.dead]) mixed ([tC (by ((try simp only [Vu,Vx,Vy,Vv,bm] at*);(try unfold bn at*);omega):(decide ((↑k:Int)<(↑(VD l):Int)))=true),tT,.get _ _ _ hx,tC (eF h1),tC (eF h1),tC (eF h1),tT,.get _ _ _ hx]++Vt 4 (tC (eF h1))++ [tC h1,tC h2]) (by kernel_rfl)).cast (by rfl) (by rfl)
theorem HA (l:List D) (m k:Nat) (hl:l.length=m) (hm:m≤64) (i:Nat) (hi:i<m) (c d:Int) (hy:l[i]? =some (.agg [.int .i8 c,.int .i8 d])) (h:i≤k):ak Tryz.prog (aC Tryz.f98 1) ⟨[0,3],[],[]⟩ 2 [.aq .no 2 l,uu,uu,.int .i64 (↑i:Int),.int .i64 (↑k:Int),uu,uu,uu,uu,uu,uu,uu,uu,uu,uu,uu,uu,uu,uu,uu,uu,uu,uu,uu,uu,uu,uu,uu,uu,uu,uu,uu,uu,uu,uu,uu,uu,uu,uu,uu,uu,uu,uu] [.dead,.dead] (.exit 2) [.aq .no 2 l,uu,uu,.int .i64 (↑i:Int),uu,uu,uu,uu,uu,uu,uu,uu,uu,uu,uu,uu,uu,uu,uu,uu,uu,uu,uu,uu,uu,uu,uu,uu,uu,uu,uu,uu,uu,uu,uu,uu,uu,uu,uu,uu,uu,uu,uu] ([.dead,.dead]):=by
 exact (ak.ao (sp:=⟨[0,3],[],[]⟩) (n0:=2) (ex:=Ex.exit (2:Nat)) (t':= [.aq .no 2 l,uu,uu,.int .i64 (↑i:Int),uu,uu,uu,uu,uu,uu,uu,uu,uu,uu,uu,uu,uu,uu,uu,uu,uu,uu,uu,uu,uu,uu,uu,uu,uu,uu,uu,uu,uu,uu,uu,uu,uu,uu,uu,uu,uu,uu,uu]) (s':= [.dead,.dead]) mixed [tC (by ((try simp only [Vu,Vx,Vy,Vv,bm] at*);(try unfold bn at*);omega):(decide ((↑k:Int)<(↑i:Int)))=false)] (by kernel_rfl)).cast (by rfl) (by rfl)
theorem HB (l:List D) (m k:Nat) (hl:l.length=m) (hm:m≤64) (i:Nat) (hi:i<m) (c d:Int) (hy:l[i]? =some (.agg [.int .i8 c,.int .i8 d])) (hk:k<m) (a b:Int) (hx:l[k]? =some (.agg [.int .i8 a,.int .i8 b])) (Ub:k<i) (h1:(a==c)=true):ak Tryz.prog (aC Tryz.f98 1) ⟨[2],[],[]⟩ 2 [.aq .no 2 l,uu,uu,.int .i64 (↑i:Int),.int .i64 (↑k:Int),uu,uu,uu,uu,uu,uu,uu,uu,uu,uu,uu,uu,uu,uu,uu,uu,uu,uu,uu,uu,uu,uu,uu,uu,uu,uu,uu,uu,uu,uu,uu,uu,uu,uu,uu,uu,uu,uu] [.dead,.dead] (Ex.ret) [uu,uu,.bool false,uu,uu,uu,uu,uu,uu,uu,uu,uu,uu,uu,uu,uu,uu,uu,uu,uu,uu,uu,uu,uu,uu,uu,uu,uu,uu,uu,uu,uu,uu,uu,uu,uu,uu,uu,uu,uu,uu,uu,uu] ([.dead,.dead]):=by
 exact (ak.ao (sp:=⟨[2],[],[]⟩) (n0:=2) (ex:=Ex.ret) (t':= [uu,uu,.bool false,uu,uu,uu,uu,uu,uu,uu,uu,uu,uu,uu,uu,uu,uu,uu,uu,uu,uu,uu,uu,uu,uu,uu,uu,uu,uu,uu,uu,uu,uu,uu,uu,uu,uu,uu,uu,uu,uu,uu,uu]) (s':= [.dead,.dead]) mixed [tC (by ((try simp only [Vu,Vx,Vy,Vv,bm] at*);(try unfold bn at*);omega):(decide ((↑k:Int)<(↑i:Int)))=true),tT,.get _ _ _ hx,tT,.get _ _ _ hy,tC h1] (by kernel_rfl)).cast (by rfl) (by rfl)
theorem GW (l:List D) (m k:Nat) (hl:l.length=m) (hm:m≤64) (i:Nat) (hi:i<m) (c d:Int) (hy:l[i]? =some (.agg [.int .i8 c,.int .i8 d])) (hk:k<m) (a b:Int) (hx:l[k]? =some (.agg [.int .i8 a,.int .i8 b])) (Ub:k<i) (h1:(a==c)=false):ak Tryz.prog (aC Tryz.f98 1) ⟨[0,3,4],[],[]⟩ 2 [.aq .no 2 l,uu,uu,.int .i64 (↑i:Int),.int .i64 (↑k:Int),uu,uu,uu,uu,uu,uu,uu,uu,uu,uu,uu,uu,uu,uu,uu,uu,uu,uu,uu,uu,uu,uu,uu,uu,uu,uu,uu,uu,uu,uu,uu,uu,uu,uu,uu,uu,uu,uu] [.dead,.dead] .norm [.aq .no 2 l,uu,uu,.int .i64 (↑i:Int),.int .i64 (W3.i64.wrap ((↑k:Int)+1)),uu,uu,uu,uu,uu,uu,uu,uu,uu,uu,uu,uu,uu,uu,uu,uu,uu,uu,uu,uu,uu,uu,uu,uu,uu,uu,uu,uu,uu,uu,uu,uu,uu,uu,uu,uu,uu,uu] ([.dead,.dead]):=by
 exact (ak.ao (sp:=⟨[0,3,4],[],[]⟩) (n0:=2) (ex:=Ex.norm) (t':= [.aq .no 2 l,uu,uu,.int .i64 (↑i:Int),.int .i64 (W3.i64.wrap ((↑k:Int)+1)),uu,uu,uu,uu,uu,uu,uu,uu,uu,uu,uu,uu,uu,uu,uu,uu,uu,uu,uu,uu,uu,uu,uu,uu,uu,uu,uu,uu,uu,uu,uu,uu,uu,uu,uu,uu,uu,uu]) (s':= [.dead,.dead]) mixed [tC (by ((try simp only [Vu,Vx,Vy,Vv,bm] at*);(try unfold bn at*);omega):(decide ((↑k:Int)<(↑i:Int)))=true),tT,.get _ _ _ hx,tT,.get _ _ _ hy,tC h1] (by kernel_rfl)).cast (by rfl) (by rfl)
theorem HE (cs:List D) (Pg:∀c∈cs,c.clean=true) (m k i:Nat) (hm:m≤64) (PG:cs.length=m*2) (hi:i<m) (q:Bool) (h:m≤k):ak Tryz.prog (aC Tryz.f68 1) ⟨[0,3,4],[1000000],[]⟩ 1 [.bP 0 2 m,uu,uu,.int .i64 (↑i:Int),.bool q,.int .i64 (↑k:Int),uu,uu,uu,uu,uu,uu,uu,uu,uu,uu,uu,uu,uu,uu,uu,uu,uu,uu,uu,uu,uu,uu,uu,uu,uu,uu,uu,uu,uu,uu,uu,uu,uu] [.box cs] (.exit 2) [.bP 0 2 m,uu,uu,.int .i64 (↑i:Int),.bool q,uu,uu,uu,uu,uu,uu,uu,uu,uu,uu,uu,uu,uu,uu,uu,uu,uu,uu,uu,uu,uu,uu,uu,uu,uu,uu,uu,uu,uu,uu,uu,uu,uu,uu] ([.box (VY D.aG cs)]):=by
 exact (ak.ao (sp:=⟨[0,3,4],[1000000],[]⟩) (n0:=1) (ex:=Ex.exit (2:Nat)) (t':= [.bP 0 2 m,uu,uu,.int .i64 (↑i:Int),.bool q,uu,uu,uu,uu,uu,uu,uu,uu,uu,uu,uu,uu,uu,uu,uu,uu,uu,uu,uu,uu,uu,uu,uu,uu,uu,uu,uu,uu,uu,uu,uu,uu,uu,uu]) (s':= [.box (VY D.aG cs)]) mixed [tC (by ((try simp only [Vu,Vx,Vy,Vv,bm] at*);(try unfold bn at*);omega):(decide ((↑k:Int)<(↑m:Int)))=false),.cl cs (by first|exact cO rfl|exact Pg|exact dV Pg rfl)] (by kernel_rfl)).cast (by rfl) (by rfl)
theorem K5 (cs:List D) (Pg:∀c∈cs,c.clean=true) (m k i:Nat) (hm:m≤64) (PG:cs.length=m*2) (hi:i<m) (hk:k<m):ak Tryz.prog (aC Tryz.f68 1) ⟨[0,3,4,5],[1000000],[]⟩ 1 [.bP 0 2 m,uu,uu,.int .i64 (↑i:Int),.bool false,.int .i64 (↑k:Int),uu,uu,uu,uu,uu,uu,uu,uu,uu,uu,uu,uu,uu,uu,uu,uu,uu,uu,uu,uu,uu,uu,uu,uu,uu,uu,uu,uu,uu,uu,uu,uu,uu] [.box cs] .norm [.bP 0 2 m,uu,uu,.int .i64 (↑i:Int),.bool false,.int .i64 (W3.i64.wrap ((↑k:Int)+1)),uu,uu,uu,uu,uu,uu,uu,uu,uu,uu,uu,uu,uu,uu,uu,uu,uu,uu,uu,uu,uu,uu,uu,uu,uu,uu,uu,uu,uu,uu,uu,uu,uu] ([.box (VY D.aG cs)]):=by
 exact (ak.ao (sp:=⟨[0,3,4,5],[1000000],[]⟩) (n0:=1) (ex:=Ex.norm) (t':= [.bP 0 2 m,uu,uu,.int .i64 (↑i:Int),.bool false,.int .i64 (W3.i64.wrap ((↑k:Int)+1)),uu,uu,uu,uu,uu,uu,uu,uu,uu,uu,uu,uu,uu,uu,uu,uu,uu,uu,uu,uu,uu,uu,uu,uu,uu,uu,uu,uu,uu,uu,uu,uu,uu]) (s':= [.box (VY D.aG cs)]) mixed [tC (by ((try simp only [Vu,Vx,Vy,Vv,bm] at*);(try unfold bn at*);omega):(decide ((↑k:Int)<(↑m:Int)))=true),tF,tF,tF,tF,tF,tF,.cl cs (by first|exact cO rfl|exact Pg|exact dV Pg rfl)] (by kernel_rfl)).cast (by rfl) (by rfl)
theorem K4 (cs:List D) (Pg:∀c∈cs,c.clean=true) (m k i:Nat) (hm:m≤64) (PG:cs.length=m*2) (hi:i<m) (hk:k<m) (hs:k=i):ak Tryz.prog (aC Tryz.f68 1) ⟨[0,3,4,5],[1000000],[]⟩ 1 [.bP 0 2 m,uu,uu,.int .i64 (↑i:Int),.bool true,.int .i64 (↑k:Int),uu,uu,uu,uu,uu,uu,uu,uu,uu,uu,uu,uu,uu,uu,uu,uu,uu,uu,uu,uu,uu,uu,uu,uu,uu,uu,uu,uu,uu,uu,uu,uu,uu] [.box cs] .norm [.bP 0 2 m,uu,uu,.int .i64 (↑i:Int),.bool true,.int .i64 (W3.i64.wrap ((↑k:Int)+1)),uu,uu,uu,uu,uu,uu,uu,uu,uu,uu,uu,uu,uu,uu,uu,uu,uu,uu,uu,uu,uu,uu,uu,uu,uu,uu,uu,uu,uu,uu,uu,uu,uu] ([.box (VY D.aG cs)]):=by
 exact (ak.ao (sp:=⟨[0,3,4,5],[1000000],[]⟩) (n0:=1) (ex:=Ex.norm) (t':= [.bP 0 2 m,uu,uu,.int .i64 (↑i:Int),.bool true,.int .i64 (W3.i64.wrap ((↑k:Int)+1)),uu,uu,uu,uu,uu,uu,uu,uu,uu,uu,uu,uu,uu,uu,uu,uu,uu,uu,uu,uu,uu,uu,uu,uu,uu,uu,uu,uu,uu,uu,uu,uu,uu]) (s':= [.box (VY D.aG cs)]) mixed ([tC (by ((try simp only [Vu,Vx,Vy,Vv,bm] at*);(try unfold bn at*);omega):(decide ((↑k:Int)<(↑m:Int)))=true),tT,tT,tT,tT]++Vt 11 (tC (eF (by ((try simp only [Vu,Vx,Vy,Vv,bm] at*);(try unfold bn at*);omega):((↑k:Int)==(↑i:Int))=true)))++ [tT,tC (by ((try simp only [Vu,Vx,Vy,Vv,bm] at*);(try unfold bn at*);omega):((↑k:Int)==(↑i:Int))=true),tT,.cl cs (by first|exact cO rfl|exact Pg|exact dV Pg rfl)]) (by kernel_rfl)).cast (by rfl) (by rfl)
theorem Jf (cs:List D) (Pg:∀c∈cs,c.clean=true) (m k i:Nat) (hm:m≤64) (PG:cs.length=m*2) (hi:i<m) (hk:k<m) (a b:Int) (hA:cs[i*2]? =some (.int .i8 a)) (hb:cs[k*2+1]? =some (.int .i8 b)) (hs:k≠i) (he:(b==a)=true):ak Tryz.prog (aC Tryz.f68 1) ⟨[0,3,4,5],[1000000],[]⟩ 1 [.bP 0 2 m,uu,uu,.int .i64 (↑i:Int),.bool true,.int .i64 (↑k:Int),uu,uu,uu,uu,uu,uu,uu,uu,uu,uu,uu,uu,uu,uu,uu,uu,uu,uu,uu,uu,uu,uu,uu,uu,uu,uu,uu,uu,uu,uu,uu,uu,uu] [.box cs] .norm [.bP 0 2 m,uu,uu,.int .i64 (↑i:Int),.bool (b !=a),.int .i64 (W3.i64.wrap ((↑k:Int)+1)),uu,uu,uu,uu,uu,uu,uu,uu,uu,uu,uu,uu,uu,uu,uu,uu,uu,uu,uu,uu,uu,uu,uu,uu,uu,uu,uu,uu,uu,uu,uu,uu,uu] ([.box (VY D.aG cs)]):=by
 exact (ak.ao (sp:=⟨[0,3,4,5],[1000000],[]⟩) (n0:=1) (ex:=Ex.norm) (t':= [.bP 0 2 m,uu,uu,.int .i64 (↑i:Int),.bool (b !=a),.int .i64 (W3.i64.wrap ((↑k:Int)+1)),uu,uu,uu,uu,uu,uu,uu,uu,uu,uu,uu,uu,uu,uu,uu,uu,uu,uu,uu,uu,uu,uu,uu,uu,uu,uu,uu,uu,uu,uu,uu,uu,uu]) (s':= [.box (VY D.aG cs)]) mixed ([tC (by ((try simp only [Vu,Vx,Vy,Vv,bm] at*);(try unfold bn at*);omega):(decide ((↑k:Int)<(↑m:Int)))=true),tT,tT,tT,tT]++Vt 3 (tC (eF (by ((try simp only [Vu,Vx,Vy,Vv,bm] at*);(try unfold bn at*);omega):((↑k:Int)==(↑i:Int))=false)))++ [.dM (decide (0≤(↑k:Int)∧(↑k:Int)<(↑m:Int))) true (by ((try simp only [Vu,Vx,Vy,Vv,bm] at*);(try unfold bn at*);omega)),tC (eF (by ((try simp only [Vu,Vx,Vy,Vv,bm] at*);(try unfold bn at*);omega):((↑k:Int)==(↑i:Int))=false)),tC (eF (by ((try simp only [Vu,Vx,Vy,Vv,bm] at*);(try unfold bn at*);omega):((↑k:Int)==(↑i:Int))=false)),.get _ _ _ hb]++Vt 3 (tC (eF (by ((try simp only [Vu,Vx,Vy,Vv,bm] at*);(try unfold bn at*);omega):((↑k:Int)==(↑i:Int))=false)))++ [.dM (decide (0≤(↑i:Int)∧(↑i:Int)<(↑m:Int))) true (by ((try simp only [Vu,Vx,Vy,Vv,bm] at*);(try unfold bn at*);omega)),tC (eF (by ((try simp only [Vu,Vx,Vy,Vv,bm] at*);(try unfold bn at*);omega):((↑k:Int)==(↑i:Int))=false)),tC (eF (by ((try simp only [Vu,Vx,Vy,Vv,bm] at*);(try unfold bn at*);omega):((↑k:Int)==(↑i:Int))=false)),.get _ _ _ hA,tC (eF (by ((try simp only [Vu,Vx,Vy,Vv,bm] at*);(try unfold bn at*);omega):((↑k:Int)==(↑i:Int))=false)),tT,tC (by ((try simp only [Vu,Vx,Vy,Vv,bm] at*);(try unfold bn at*);omega):((↑k:Int)==(↑i:Int))=false),tT,.cl cs (by first|exact cO rfl|exact Pg|exact dV Pg rfl)]) (by kernel_rfl)).cast (by rfl) (by rfl)
theorem Je (cs:List D) (Pg:∀c∈cs,c.clean=true) (m k i:Nat) (hm:m≤64) (PG:cs.length=m*2) (hi:i<m) (hk:k<m) (a b:Int) (hA:cs[i*2]? =some (.int .i8 a)) (hb:cs[k*2+1]? =some (.int .i8 b)) (hs:k≠i) (he:(b==a)=false):ak Tryz.prog (aC Tryz.f68 1) ⟨[0,3,4,5],[1000000],[]⟩ 1 [.bP 0 2 m,uu,uu,.int .i64 (↑i:Int),.bool true,.int .i64 (↑k:Int),uu,uu,uu,uu,uu,uu,uu,uu,uu,uu,uu,uu,uu,uu,uu,uu,uu,uu,uu,uu,uu,uu,uu,uu,uu,uu,uu,uu,uu,uu,uu,uu,uu] [.box cs] .norm [.bP 0 2 m,uu,uu,.int .i64 (↑i:Int),.bool (b !=a),.int .i64 (W3.i64.wrap ((↑k:Int)+1)),uu,uu,uu,uu,uu,uu,uu,uu,uu,uu,uu,uu,uu,uu,uu,uu,uu,uu,uu,uu,uu,uu,uu,uu,uu,uu,uu,uu,uu,uu,uu,uu,uu] ([.box (VY D.aG cs)]):=by
 exact (ak.ao (sp:=⟨[0,3,4,5],[1000000],[]⟩) (n0:=1) (ex:=Ex.norm) (t':= [.bP 0 2 m,uu,uu,.int .i64 (↑i:Int),.bool (b !=a),.int .i64 (W3.i64.wrap ((↑k:Int)+1)),uu,uu,uu,uu,uu,uu,uu,uu,uu,uu,uu,uu,uu,uu,uu,uu,uu,uu,uu,uu,uu,uu,uu,uu,uu,uu,uu,uu,uu,uu,uu,uu,uu]) (s':= [.box (VY D.aG cs)]) mixed ([tC (by ((try simp only [Vu,Vx,Vy,Vv,bm] at*);(try unfold bn at*);omega):(decide ((↑k:Int)<(↑m:Int)))=true),tT,tT,tT,tT]++Vt 3 (tC (eF (by ((try simp only [Vu,Vx,Vy,Vv,bm] at*);(try unfold bn at*);omega):((↑k:Int)==(↑i:Int))=false)))++ [.dM (decide (0≤(↑k:Int)∧(↑k:Int)<(↑m:Int))) true (by ((try simp only [Vu,Vx,Vy,Vv,bm] at*);(try unfold bn at*);omega)),tC (eF (by ((try simp only [Vu,Vx,Vy,Vv,bm] at*);(try unfold bn at*);omega):((↑k:Int)==(↑i:Int))=false)),tC (eF (by ((try simp only [Vu,Vx,Vy,Vv,bm] at*);(try unfold bn at*);omega):((↑k:Int)==(↑i:Int))=false)),.get _ _ _ hb]++Vt 3 (tC (eF (by ((try simp only [Vu,Vx,Vy,Vv,bm] at*);(try unfold bn at*);omega):((↑k:Int)==(↑i:Int))=false)))++ [.dM (decide (0≤(↑i:Int)∧(↑i:Int)<(↑m:Int))) true (by ((try simp only [Vu,Vx,Vy,Vv,bm] at*);(try unfold bn at*);omega)),tC (eF (by ((try simp only [Vu,Vx,Vy,Vv,bm] at*);(try unfold bn at*);omega):((↑k:Int)==(↑i:Int))=false)),tC (eF (by ((try simp only [Vu,Vx,Vy,Vv,bm] at*);(try unfold bn at*);omega):((↑k:Int)==(↑i:Int))=false)),.get _ _ _ hA,tC (eF (by ((try simp only [Vu,Vx,Vy,Vv,bm] at*);(try unfold bn at*);omega):((↑k:Int)==(↑i:Int))=false)),tT,tC (by ((try simp only [Vu,Vx,Vy,Vv,bm] at*);(try unfold bn at*);omega):((↑k:Int)==(↑i:Int))=false),tT,.cl cs (by first|exact cO rfl|exact Pg|exact dV Pg rfl)]) (by kernel_rfl)).cast (by rfl) (by rfl)
theorem HH (l:List D) (m k:Nat) (hl:l.length=m) (hm:m≤64) (sc:Int) (h:m≤k):ak Tryz.prog (aC Tryz.f49 0) ⟨[1,6,7],[],[]⟩ 1 ((.aq .no 2 l)::(.int .i8 sc)::(un 4++(.aq .tight 0 [])::(.aq .tight 0 [])::(.int .i64 (↑k:Int))::(un 89))) [.dead] (.exit 0) ((uu)::(.int .i8 sc)::(un 4++(.aq .tight 0 [])::(.aq .tight 0 [])::(un 90))) ([.dead]):=by
 exact (ak.ao (sp:=⟨[1,6,7],[],[]⟩) (n0:=1) (ex:=Ex.exit (0:Nat)) (t':=((uu)::(.int .i8 sc)::(un 4++(.aq .tight 0 [])::(.aq .tight 0 [])::(un 90)))) (s':= [.dead]) mixed [tC (by ((try simp only [Vu,Vx,Vy,Vv,bm] at*);(try unfold bn at*);omega):(decide ((↑k:Int)<(↑(VD l):Int)))=false)] (by kernel_rfl)).cast (by rfl) (by rfl)
theorem zN (l:List D) (m k:Nat) (hl:l.length=m) (hm:m≤64) (sc:Int) (hk:k<m) (a b:Int) (hx:l[k]? =some (.agg [.int .i8 a,.int .i8 b])) (he:(a==b)=true):ak Tryz.prog (aC Tryz.f49 0) ⟨[0,1,6,7,8],[],[]⟩ 1 ((.aq .no 2 l)::(.int .i8 sc)::(un 4++(.aq .tight 0 [])::(.aq .tight 0 [])::(.int .i64 (↑k:Int))::(un 89))) [.dead] .norm ((.aq .no 2 l)::(.int .i8 sc)::(un 4++(.aq .tight 0 [])::(.aq .tight 0 [])::(.int .i64 (W3.i64.wrap ((↑k:Int)+1)))::(un 89))) ([.dead]):=by
 exact (ak.ao (sp:=⟨[0,1,6,7,8],[],[]⟩) (n0:=1) (ex:=Ex.norm) (t':=((.aq .no 2 l)::(.int .i8 sc)::(un 4++(.aq .tight 0 [])::(.aq .tight 0 [])::(.int .i64 (W3.i64.wrap ((↑k:Int)+1)))::(un 89)))) (s':= [.dead]) mixed [tC (by ((try simp only [Vu,Vx,Vy,Vv,bm] at*);(try unfold bn at*);omega):(decide ((↑k:Int)<(↑(VD l):Int)))=true),tT,.get _ _ _ hx,tT,.get _ _ _ hx,tC (nt he)] (by kernel_rfl)).cast (by rfl) (by rfl)
theorem CQ (l:List D) (m k:Nat) (hl:l.length=m) (hm:m≤64) (sc:Int) (hk:k<m) (a b:Int) (hx:l[k]? =some (.agg [.int .i8 a,.int .i8 b])) (he:(a==b)=false):ak Tryz.prog (aC Tryz.f49 0) ⟨[0,1,7,8],[],[(6,2)]⟩ 1 ((.aq .no 2 l)::(.int .i8 sc)::(un 4++(.aq .tight 0 [])::(.aq .tight 0 [])::(.int .i64 (↑k:Int))::(un 89))) [.dead] .norm ((.aq .no 2 l)::(.int .i8 sc)::(un 4++(.bP 1 2 1)::(.aq .tight 0 [])::(.int .i64 (W3.i64.wrap ((↑k:Int)+1)))::(un 89))) ([.dead,.box [.int .i8 a,.int .i8 b]]):=by
 exact (ak.ao (sp:=⟨[0,1,7,8],[],[(6,2)]⟩) (n0:=1) (ex:=Ex.norm) (t':=((.aq .no 2 l)::(.int .i8 sc)::(un 4++(.bP 1 2 1)::(.aq .tight 0 [])::(.int .i64 (W3.i64.wrap ((↑k:Int)+1)))::(un 89)))) (s':= [.dead,.box [.int .i8 a,.int .i8 b]]) mixed [tC (by ((try simp only [Vu,Vx,Vy,Vv,bm] at*);(try unfold bn at*);omega):(decide ((↑k:Int)<(↑(VD l):Int)))=true),tT,.get _ _ _ hx,tT,.get _ _ _ hx,tC (nt he),tT,.get _ _ _ hx,.go 0,.len 1 2147483648 (by decide),.cl ([.int .i8 a,.int .i8 b]) (by exact cO rfl)] (by kernel_rfl)).cast (by rfl) (by rfl)
theorem HG (l:List D) (m k:Nat) (hl:l.length=m) (hm:m≤64) (sc:Int) (cs:List D) (Pg:∀c∈cs,c.clean=true) (q:Nat) (hq:cs.length=q*2) (q1:q≤64) (h:m≤k):ak Tryz.prog (aC Tryz.f49 0) ⟨[1,7],[],[(6,2)]⟩ 1 ((.aq .no 2 l)::(.int .i8 sc)::(un 4++(.bP 1 2 q)::(.aq .tight 0 [])::(.int .i64 (↑k:Int))::(un 89))) [.dead,.box cs] (.exit 0) ((uu)::(.int .i8 sc)::(un 4++(.bP 1 2 q)::(.aq .tight 0 [])::(un 90))) ([.dead,.box (VY D.aG cs)]):=by
 exact (ak.ao (sp:=⟨[1,7],[],[(6,2)]⟩) (n0:=1) (ex:=Ex.exit (0:Nat)) (t':=((uu)::(.int .i8 sc)::(un 4++(.bP 1 2 q)::(.aq .tight 0 [])::(un 90)))) (s':= [.dead,.box (VY D.aG cs)]) mixed [tC (by ((try simp only [Vu,Vx,Vy,Vv,bm] at*);(try unfold bn at*);omega):(decide ((↑k:Int)<(↑(VD l):Int)))=false),.cl cs (by first|exact cO rfl|exact Pg|exact fi Pg rfl|exact dm Pg)] (by kernel_rfl)).cast (by rfl) (by rfl)
theorem Fh (l:List D) (m k:Nat) (hl:l.length=m) (hm:m≤64) (sc:Int) (cs:List D) (Pg:∀c∈cs,c.clean=true) (q:Nat) (hq:cs.length=q*2) (q1:q≤64) (hk:k<m) (a b:Int) (hx:l[k]? =some (.agg [.int .i8 a,.int .i8 b])) (he:(a==b)=true):ak Tryz.prog (aC Tryz.f49 0) ⟨[0,1,7,8],[],[(6,2)]⟩ 1 ((.aq .no 2 l)::(.int .i8 sc)::(un 4++(.bP 1 2 q)::(.aq .tight 0 [])::(.int .i64 (↑k:Int))::(un 89))) [.dead,.box cs] .norm ((.aq .no 2 l)::(.int .i8 sc)::(un 4++(.bP 1 2 q)::(.aq .tight 0 [])::(.int .i64 (W3.i64.wrap ((↑k:Int)+1)))::(un 89))) ([.dead,.box (VY D.aG cs)]):=by
 exact (ak.ao (sp:=⟨[0,1,7,8],[],[(6,2)]⟩) (n0:=1) (ex:=Ex.norm) (t':=((.aq .no 2 l)::(.int .i8 sc)::(un 4++(.bP 1 2 q)::(.aq .tight 0 [])::(.int .i64 (W3.i64.wrap ((↑k:Int)+1)))::(un 89)))) (s':= [.dead,.box (VY D.aG cs)]) mixed [tC (by ((try simp only [Vu,Vx,Vy,Vv,bm] at*);(try unfold bn at*);omega):(decide ((↑k:Int)<(↑(VD l):Int)))=true),tT,.get _ _ _ hx,tT,.get _ _ _ hx,tC (nt he),.cl cs (by first|exact cO rfl|exact Pg|exact fi Pg rfl|exact dm Pg)] (by kernel_rfl)).cast (by rfl) (by rfl)
theorem HF (l:List D) (m k:Nat) (hl:l.length=m) (hm:m≤64) (sc:Int) (cs:List D) (Pg:∀c∈cs,c.clean=true) (q:Nat) (hq:cs.length=q*2) (q1:q≤64) (hk:k<m) (a b:Int) (hx:l[k]? =some (.agg [.int .i8 a,.int .i8 b])) (he:(a==b)=false):ak Tryz.prog (aC Tryz.f49 0) ⟨[0,1,7,8],[],[(6,2)]⟩ 1 ((.aq .no 2 l)::(.int .i8 sc)::(un 4++(.bP 1 2 q)::(.aq .tight 0 [])::(.int .i64 (↑k:Int))::(un 89))) [.dead,.box cs] .norm ((.aq .no 2 l)::(.int .i8 sc)::(un 4++(.bP 1 2 (q+(1:Nat)))::(.aq .tight 0 [])::(.int .i64 (W3.i64.wrap ((↑k:Int)+1)))::(un 89))) ([.dead,.box (VY D.aG (cs++ [.int .i8 a,.int .i8 b]))]):=by
 exact (ak.ao (sp:=⟨[0,1,7,8],[],[(6,2)]⟩) (n0:=1) (ex:=Ex.norm) (t':=((.aq .no 2 l)::(.int .i8 sc)::(un 4++(.bP 1 2 (q+(1:Nat)))::(.aq .tight 0 [])::(.int .i64 (W3.i64.wrap ((↑k:Int)+1)))::(un 89)))) (s':= [.dead,.box (VY D.aG (cs++ [.int .i8 a,.int .i8 b]))]) mixed [tC (by ((try simp only [Vu,Vx,Vy,Vv,bm] at*);(try unfold bn at*);omega):(decide ((↑k:Int)<(↑(VD l):Int)))=true),tT,.get _ _ _ hx,tT,.get _ _ _ hx,tC (nt he),tT,.get _ _ _ hx,.len (q+(1:Nat)) ((2147483648:Nat)) (by first|decide|omega|(simp;omega)),tC (v:=true) (@wN cs q hq),.cl (cs++ [.int .i8 a,.int .i8 b]) (by first|exact cO rfl|exact Pg|exact fi Pg rfl|exact dm Pg)] (by kernel_rfl)).cast (by rfl) (by rfl)
theorem Hu (cs outs:List D) (Pg:∀c∈cs,c.clean=true) (sc f:Int) (m k:Nat) (hm:m≤64) (PG:cs.length=m*2) (h:m≤k):ak Tryz.prog (aC Tryz.f49 2) ⟨[1,6,7],[2,1000003],[]⟩ 4 ((uu)::(.int .i8 sc)::(un 4++(.bP 3 2 m)::(.aq (.tok 2 1) 2 outs)::(uu)::(uu)::(.int .i8 f)::(.int .i64 (↑k:Int))::(un 86))) [.dead,.dead,.bg 1 2,.box cs] (.exit 4) ((uu)::(.int .i8 sc)::(un 4++(.bP 3 2 m)::(.aq (.tok 2 1) 2 outs)::(un 90))) ([.dead,.dead,.bg 1 2,.box (VY D.aG cs)]):=by
 exact (ak.ao (sp:=⟨[1,6,7],[2,1000003],[]⟩) (n0:=4) (ex:=Ex.exit (4:Nat)) (t':=((uu)::(.int .i8 sc)::(un 4++(.bP 3 2 m)::(.aq (.tok 2 1) 2 outs)::(un 90)))) (s':= [.dead,.dead,.bg 1 2,.box (VY D.aG cs)]) mixed [tC (by ((try simp only [Vu,Vx,Vy,Vv,bm] at*);(try unfold bn at*);omega):(decide ((↑k:Int)<(↑m:Int)))=false),.cl cs (by first|exact cO rfl|exact Pg|exact dV Pg rfl)] (by kernel_rfl)).cast (by rfl) (by rfl)
theorem I8 (cs outs:List D) (Pg:∀c∈cs,c.clean=true) (sc f:Int) (m k:Nat) (hm:m≤64) (PG:cs.length=m*2) (hk:k<m) (b:Int) (hb:cs[k*2+1]? =some (.int .i8 b)) (he:(b==f)=true):ak Tryz.prog (aC Tryz.f49 2) ⟨[1,6,7,10,11],[2,1000003],[]⟩ 4 ((uu)::(.int .i8 sc)::(un 4++(.bP 3 2 m)::(.aq (.tok 2 1) 2 outs)::(uu)::(uu)::(.int .i8 f)::(.int .i64 (↑k:Int))::(un 86))) [.dead,.dead,.bg 1 2,.box cs] .norm ((uu)::(.int .i8 sc)::(un 4++(.bP 3 2 m)::(.aq (.tok 2 1) 2 outs)::(uu)::(uu)::(.int .i8 f)::(.int .i64 (W3.i64.wrap ((↑k:Int)+1)))::(un 86))) ([.dead,.dead,.bg 1 2,.box (VY D.aG (List.set cs (Int.toNat (↑k:Int)*(2:Nat)+(1:Nat)) (.int .i8 sc)))]):=by
 exact (ak.ao (sp:=⟨[1,6,7,10,11],[2,1000003],[]⟩) (n0:=4) (ex:=Ex.norm) (t':=((uu)::(.int .i8 sc)::(un 4++(.bP 3 2 m)::(.aq (.tok 2 1) 2 outs)::(uu)::(uu)::(.int .i8 f)::(.int .i64 (W3.i64.wrap ((↑k:Int)+1)))::(un 86)))) (s':= [.dead,.dead,.bg 1 2,.box (VY D.aG (List.set cs (Int.toNat (↑k:Int)*(2:Nat)+(1:Nat)) (.int .i8 sc)))]) mixed [tC (by ((try simp only [Vu,Vx,Vy,Vv,bm] at*);(try unfold bn at*);omega):(decide ((↑k:Int)<(↑m:Int)))=true),.dM (decide (0≤(↑k:Int)∧(↑k:Int)<(↑m:Int))) true (by ((try simp only [Vu,Vx,Vy,Vv,bm] at*);(try unfold bn at*);omega)),.get _ _ _ hb,tC he,.dM (decide (0≤(↑k:Int)∧(↑k:Int)<(↑m:Int))) true (by ((try simp only [Vu,Vx,Vy,Vv,bm] at*);(try unfold bn at*);omega)),.Dv _ _ _ _ (@z7 cs (Int.toNat (↑k:Int)*(2:Nat)+(1:Nat)) (.int .i8 sc) (by ((try simp only [Vu,Vx,Vy,Vv,bm] at*);(try unfold bn at*);omega))),.raw,.cl (List.set cs (Int.toNat (↑k:Int)*(2:Nat)+(1:Nat)) (.int .i8 sc)) (by first|exact cO rfl|exact Pg|exact dV Pg rfl)] (by kernel_rfl)).cast (by rfl) (by rfl)
theorem I7 (cs outs:List D) (Pg:∀c∈cs,c.clean=true) (sc f:Int) (m k:Nat) (hm:m≤64) (PG:cs.length=m*2) (hk:k<m) (b:Int) (hb:cs[k*2+1]? =some (.int .i8 b)) (he:(b==f)=false):ak Tryz.prog (aC Tryz.f49 2) ⟨[1,6,7,10,11],[2,1000003],[]⟩ 4 ((uu)::(.int .i8 sc)::(un 4++(.bP 3 2 m)::(.aq (.tok 2 1) 2 outs)::(uu)::(uu)::(.int .i8 f)::(.int .i64 (↑k:Int))::(un 86))) [.dead,.dead,.bg 1 2,.box cs] .norm ((uu)::(.int .i8 sc)::(un 4++(.bP 3 2 m)::(.aq (.tok 2 1) 2 outs)::(uu)::(uu)::(.int .i8 f)::(.int .i64 (W3.i64.wrap ((↑k:Int)+1)))::(un 86))) ([.dead,.dead,.bg 1 2,.box (VY D.aG cs)]):=by
 exact (ak.ao (sp:=⟨[1,6,7,10,11],[2,1000003],[]⟩) (n0:=4) (ex:=Ex.norm) (t':=((uu)::(.int .i8 sc)::(un 4++(.bP 3 2 m)::(.aq (.tok 2 1) 2 outs)::(uu)::(uu)::(.int .i8 f)::(.int .i64 (W3.i64.wrap ((↑k:Int)+1)))::(un 86)))) (s':= [.dead,.dead,.bg 1 2,.box (VY D.aG cs)]) mixed [tC (by ((try simp only [Vu,Vx,Vy,Vv,bm] at*);(try unfold bn at*);omega):(decide ((↑k:Int)<(↑m:Int)))=true),.dM (decide (0≤(↑k:Int)∧(↑k:Int)<(↑m:Int))) true (by ((try simp only [Vu,Vx,Vy,Vv,bm] at*);(try unfold bn at*);omega)),.get _ _ _ hb,tC he,.cl cs (by first|exact cO rfl|exact Pg|exact dV Pg rfl)] (by kernel_rfl)).cast (by rfl) (by rfl)
theorem dk {l:List Mv} {k:Nat} (h:k<l.length):(cz l)[k]? =some (.agg [.int .i8 l[k].1,.int .i8 l[k].2]):=by simp [cz,h]
theorem cW (l:List Mv):(cz l).length=l.length:=by simp [cz]
theorem lO {k:Nat} (h:k≤1000):W3.i64.wrap ((k:Int)+1)=((k+1:Nat):Int):=by rw [aY];omega
theorem v8 {l:List Mv} {k:Nat} (h:k<l.length):(bT l)[k*2]? =some (.int .i8 l[k].1):=by
 have e:=ll l k
 rw [VT h] at e
 have:=congrArg (fun x:List D=>x[0]?) e
 simpa [List.getElem?_drop,bT] using this
abbrev Mj (l:List Mv) (sc:Int) (k:Nat):List D:= [.aq .no 2 (cz l),.int .i8 sc,.undef,.undef,.undef,.int .i64 (k:Int),.undef,.undef,.undef,.undef,.undef,.undef,.undef,.undef,.undef,.undef,.undef,.undef,.undef,.undef,.undef,.undef,.undef,.undef,.undef,.undef,.undef,.undef,.undef,.undef,.undef,.undef,.undef,.undef,.undef,.undef]
abbrev Ml:List D:= [.undef,.undef,.undef,.undef,.undef,.undef,.undef,.undef,.undef,.undef,.undef,.undef,.undef,.undef,.undef,.undef,.undef,.undef,.undef,.undef,.undef,.undef,.undef,.undef,.undef,.undef,.undef,.undef,.undef,.undef,.undef,.undef,.undef,.undef,.undef,.undef]
abbrev Mk:List D:= [.undef,.undef,.undef,.undef,.bool false,.undef,.undef,.undef,.undef,.undef,.undef,.undef,.undef,.undef,.undef,.undef,.undef,.undef,.undef,.undef,.undef,.undef,.undef,.undef,.undef,.undef,.undef,.undef,.undef,.undef,.undef,.undef,.undef,.undef,.undef,.undef]
theorem CH (l:List Mv) (Pe:l.length≤64) (sc:Int):∀(n k:Nat),k+n=l.length→ofM sc (l.drop k)=true→
  aA Tryz.prog (aC Tryz.f67 0) 2 (Mj l sc k) [.dead,.dead] (.exit 0) Ml [.dead,.dead]
 |0,k,hk,_=>aA.last (Ht (cz l) l.length k (cW l) Pe sc (by omega)) (fun h=>by cases h)
 |n+1,k,hk,h=>by
  have Pd:k<l.length:=by omega
  rw [VT Pd,ofM,List.all_cons] at h
  simp only [VG,Wn] at h
  have:=GR (cz l) l.length k (cW l) Pe sc Pd l[k].1 l[k].2 (dk Pd) h.1.1 h.1.2
  rw [lO (by omega)] at this
  exact aA.bZ this (CH l Pe sc n (k+1) (by omega) h.2)
theorem GS (l:List Mv) (Pe:l.length≤64) (sc:Int):∀(n k:Nat),k+n=l.length→ofM sc (l.drop k)=false→
  aA Tryz.prog (aC Tryz.f67 0) 2 (Mj l sc k) [.dead,.dead] .ret Mk [.dead,.dead]
 |0,k,hk,h=>by
  obtain rfl:k=l.length:=by omega
  rw [Wl] at h
  cases h
 |n+1,k,hk,h=>by
  have Pd:k<l.length:=by omega
  rw [VT Pd,ofM,List.all_cons] at h
  cases h1:(l[k].1==sc) with
  |true=>exact aA.last (KW (cz l) l.length k (cW l) Pe sc Pd l[k].1 l[k].2 (dk Pd) h1) (fun h=>by cases h)
  |false=>
   cases h2:(l[k].2==sc) with
   |true=>exact aA.last (KV (cz l) l.length k (cW l) Pe sc Pd l[k].1 l[k].2 (dk Pd) h1 h2) (fun h=>by cases h)
   |false=>
    rw [h1,h2] at h
    have:=GR (cz l) l.length k (cW l) Pe sc Pd l[k].1 l[k].2 (dk Pd) h1 h2
    rw [lO (by omega)] at this
    exact aA.bZ this (GS l Pe sc n (k+1) (by omega) (by simpa [ofM] using h))
abbrev Ms (l:List Mv) (i k:Nat):List D:= [.aq .no 2 (cz l),.undef,.undef,.int .i64 (i:Int),.int .i64 (k:Int),.undef,.undef,.undef,.undef,.undef,.undef,.undef,.undef,.undef,.undef,.undef,.undef,.undef,.undef,.undef,.undef,.undef,.undef,.undef,.undef,.undef,.undef,.undef,.undef,.undef,.undef,.undef,.undef,.undef,.undef,.undef,.undef,.undef,.undef,.undef,.undef,.undef,.undef]
abbrev Mt (l:List Mv) (i:Nat):List D:= [.aq .no 2 (cz l),.undef,.undef,.int .i64 (i:Int),.undef,.undef,.undef,.undef,.undef,.undef,.undef,.undef,.undef,.undef,.undef,.undef,.undef,.undef,.undef,.undef,.undef,.undef,.undef,.undef,.undef,.undef,.undef,.undef,.undef,.undef,.undef,.undef,.undef,.undef,.undef,.undef,.undef,.undef,.undef,.undef,.undef,.undef,.undef]
abbrev Kx:List D:= [.undef,.undef,.bool false,.undef,.undef,.undef,.undef,.undef,.undef,.undef,.undef,.undef,.undef,.undef,.undef,.undef,.undef,.undef,.undef,.undef,.undef,.undef,.undef,.undef,.undef,.undef,.undef,.undef,.undef,.undef,.undef,.undef,.undef,.undef,.undef,.undef,.undef,.undef,.undef,.undef,.undef,.undef,.undef]
theorem GX (l:List Mv) (Pe:l.length≤64) (i:Nat) (hi:i<l.length):∀(n k:Nat),k+n=i→(∀(j:Nat) (h:j<l.length),k≤j→j<i→(l[j].1==l[i].1)=false)→
  aA Tryz.prog (aC Tryz.f98 1) 2 (Ms l i k) [.dead,.dead] (.exit 2) (Mt l i) [.dead,.dead]
 |0,k,hk,_=>aA.last (HA (cz l) l.length k (cW l) Pe i hi l[i].1 l[i].2 (dk hi) (by omega)) (fun h=>by cases h)
 |n+1,k,hk,h=>by
  have Pd:k<l.length:=by omega
  have:=GW (cz l) l.length k (cW l) Pe i hi l[i].1 l[i].2 (dk hi) Pd l[k].1 l[k].2 (dk Pd) (by omega) (h k Pd (VF _) (by omega))
  rw [lO (by omega)] at this
  exact aA.bZ this (GX l Pe i hi n (k+1) (by omega) (fun j hj a b=>h j hj (by omega) b))
theorem CM (l:List Mv) (Pe:l.length≤64) (i:Nat) (hi:i<l.length):∀(n k:Nat),k+n=i→(∃(j:Nat) (h:j<l.length),k≤j∧j<i∧(l[j].1==l[i].1)=true)→
  aA Tryz.prog (aC Tryz.f98 1) 2 (Ms l i k) [.dead,.dead] .ret Kx [.dead,.dead]
 |0,k,hk,⟨j,hj,a,b,_⟩=>by omega
 |n+1,k,hk,⟨j,hj,a,b,e⟩=>by
  have Pd:k<l.length:=by omega
  cases h1:(l[k].1==l[i].1) with
  |true=>exact aA.last (HB (cz l) l.length k (cW l) Pe i hi l[i].1 l[i].2 (dk hi) Pd l[k].1 l[k].2 (dk Pd) (by omega) h1) (fun h=>by cases h)
  |false=>
   have:=GW (cz l) l.length k (cW l) Pe i hi l[i].1 l[i].2 (dk hi) Pd l[k].1 l[k].2 (dk Pd) (by omega) h1
   rw [lO (by omega)] at this
   have hjk:k≠j:=fun q=>by subst q;rw [h1] at e;cases e
   exact aA.bZ this (CM l Pe i hi n (k+1) (by omega) ⟨j,hj,by omega,b,e⟩)
abbrev NW (n i:Nat) (q:Bool) (k:Nat):List D:= [.bP 0 2 n,.undef,.undef,.int .i64 (i:Int),.bool q,.int .i64 (k:Int),.undef,.undef,.undef,.undef,.undef,.undef,.undef,.undef,.undef,.undef,.undef,.undef,.undef,.undef,.undef,.undef,.undef,.undef,.undef,.undef,.undef,.undef,.undef,.undef,.undef,.undef,.undef,.undef,.undef,.undef,.undef,.undef,.undef]
abbrev Mz (n i:Nat) (q:Bool):List D:= [.bP 0 2 n,.undef,.undef,.int .i64 (i:Int),.bool q,.undef,.undef,.undef,.undef,.undef,.undef,.undef,.undef,.undef,.undef,.undef,.undef,.undef,.undef,.undef,.undef,.undef,.undef,.undef,.undef,.undef,.undef,.undef,.undef,.undef,.undef,.undef,.undef,.undef,.undef,.undef,.undef,.undef,.undef]
theorem CP (l:List Mv) (Pe:l.length≤64) (i:Nat) (hi:i<l.length):∀(n k:Nat),k+n=l.length→∀q:Bool,
  aA Tryz.prog (aC Tryz.f68 1) 1 (NW l.length i q k) [.box (bT l)] (.exit 2) (Mz l.length i (q&&pR l[i].1 i (l.drop k) k)) [.box (bT l)]
 |0,k,hk,q=>by
  have:=HE (bT l) (aZ l) l.length k i Pe (ct l) hi q (by omega)
  rw [aW] at this
  rw [List.drop_of_length_le (by omega),pR,VM]
  exact aA.last this (fun h=>by cases h)
 |n+1,k,hk,q=>by
  have Pd:k<l.length:=by omega
  rw [VT Pd,pR]
  cases q with
  |false=>
   have:=K5 (bT l) (aZ l) l.length k i Pe (ct l) hi Pd
   rw [lO (by omega),aW] at this
   exact aA.bZ this (CP l Pe i hi n (k+1) (by omega) false)
  |true=>
   by_cases hs:k=i
   ·have:=K4 (bT l) (aZ l) l.length k i Pe (ct l) hi Pd hs
    rw [lO (by omega),aW] at this
    have ih:=CP l Pe i hi n (k+1) (by omega) true
    rw [decide_eq_true hs,Bool.true_or,Bool.true_and]
    exact aA.bZ this ih
   ·rw [decide_eq_false hs,Bool.false_or]
    cases he:(l[k].2==l[i].1) with
    |true=>
     have:=Jf (bT l) (aZ l) l.length k i Pe (ct l) hi Pd l[i].1 l[k].2 (v8 hi) (jz l k Pd) hs he
     rw [lO (by omega),aW,show (l[k].2 !=l[i].1)=false by rw [bne,he];rfl] at this
     have ih:=CP l Pe i hi n (k+1) (by omega) false
     exact aA.bZ this ih
    |false=>
     have:=Je (bT l) (aZ l) l.length k i Pe (ct l) hi Pd l[i].1 l[k].2 (v8 hi) (jz l k Pd) hs he
     rw [lO (by omega),aW,show (l[k].2 !=l[i].1)=true by rw [bne,he];rfl] at this
     have ih:=CP l Pe i hi n (k+1) (by omega) true
     exact aA.bZ this ih
def LN (l:List Mv) (i:Nat):Prop:= ∀(j:Nat) (h:j<l.length) (hi:i<l.length),j<i→(l[j].1==l[i].1)=false
def L5 (l:List Mv) (i:Nat):Prop:= ∃(j:Nat) (h:j<l.length) (hi:i<l.length),j<i∧(l[j].1==l[i].1)=true
abbrev Jc (l:List Mv) (i:Nat):List D:= [.aq .no 2 (cz l),.undef,.undef,.int .i64 (i:Int),.int .i64 0,.undef,.undef,.undef,.undef,.undef,.undef,.undef,.undef,.undef,.undef,.undef,.undef,.undef,.undef,.undef,.undef,.undef,.undef,.undef,.undef,.undef,.undef,.undef,.undef,.undef,.undef,.undef,.undef,.undef,.undef,.undef,.undef,.undef,.undef,.undef,.undef,.undef,.undef]
theorem Hz (l:List Mv) (Pe:l.length≤64) (i:Nat) (hi:i<l.length) (h:LN l i):aI Tryz.prog 2 (.loop (aC Tryz.f98 1)) (Jc l i) [.dead,.dead] (.exit 2) (Mt l i) [.dead,.dead]:=
 aI.bf (VF _) (GX l Pe i hi i 0 (by omega) (fun j hj _ b=>h j hj hi b))
theorem Fg (l:List Mv) (Pe:l.length≤64) (i:Nat) (hi:i<l.length) (h:L5 l i):aI Tryz.prog 2 (.loop (aC Tryz.f98 1)) (Jc l i) [.dead,.dead] .ret Kx [.dead,.dead]:=by
 obtain ⟨j,hj,_,a,b⟩:=h
 exact aI.bf (VF _) (CM l Pe i hi i 0 (by omega) ⟨j,hj,Nat.zero_le _,a,b⟩)
abbrev I6 (l:List Mv) (sc:Int):List D:= [.aq .no 2 (cz l),.int .i8 sc,.undef,.undef,.undef,.int .i64 0,.undef,.undef,.undef,.undef,.undef,.undef,.undef,.undef,.undef,.undef,.undef,.undef,.undef,.undef,.undef,.undef,.undef,.undef,.undef,.undef,.undef,.undef,.undef,.undef,.undef,.undef,.undef,.undef,.undef,.undef]
theorem Fa (l:List Mv) (Pe:l.length≤64) (sc:Int) (h:ofM sc l=true):aI Tryz.prog 2 (.loop (aC Tryz.f67 0)) (I6 l sc) [.dead,.dead] (.exit 0) Ml [.dead,.dead]:=aI.bf (VF _) (CH l Pe sc l.length 0 (by omega) h)
theorem Hs (l:List Mv) (Pe:l.length≤64) (sc:Int) (h:ofM sc l=false):aI Tryz.prog 2 (.loop (aC Tryz.f67 0)) (I6 l sc) [.dead,.dead] .ret Mk [.dead,.dead]:=aI.bf (VF _) (GS l Pe sc l.length 0 (by omega) h)
def Hm (l:List Mv) (i:Nat):Bool:=pR (l.getD i (0,0)).1 i l 0
abbrev K6 (n i:Nat):List D:= [.bP 0 2 n,.undef,.undef,.int .i64 (i:Int),.bool true,.int .i64 0,.undef,.undef,.undef,.undef,.undef,.undef,.undef,.undef,.undef,.undef,.undef,.undef,.undef,.undef,.undef,.undef,.undef,.undef,.undef,.undef,.undef,.undef,.undef,.undef,.undef,.undef,.undef,.undef,.undef,.undef,.undef,.undef,.undef]
theorem My (l:List Mv) (Pe:l.length≤64) (i:Nat) (hi:i<l.length):aI Tryz.prog 1 (.loop (aC Tryz.f68 1)) (K6 l.length i) [.box (VY D.aG (bT l))] (.exit 2) (Mz l.length i (Hm l i)) [.box (bT l)]:=by
 have:=CP l Pe i hi l.length 0 (by omega) true
 rw [aW]
 unfold Hm
 rw [VJ,V8 hi,Option.getD_some]
 exact aI.bf (VF _) this
theorem Hw (l:List Mv) (Pe:l.length≤64) (hl:(cz l).length=l.length) (i:Nat) (h:l.length≤i):ak Tryz.prog (aC Tryz.f98 0) ⟨[],[],[]⟩ 0 [.aq .no 2 (cz l),uu,uu,.int .i64 (↑i:Int),uu,uu,uu,uu,uu,uu,uu,uu,uu,uu,uu,uu,uu,uu,uu,uu,uu,uu,uu,uu,uu,uu,uu,uu,uu,uu,uu,uu,uu,uu,uu,uu,uu,uu,uu,uu,uu,uu,uu] [] (.exit 0) [uu,uu,uu,uu,uu,uu,uu,uu,uu,uu,uu,uu,uu,uu,uu,uu,uu,uu,uu,uu,uu,uu,uu,uu,uu,uu,uu,uu,uu,uu,uu,uu,uu,uu,uu,uu,uu,uu,uu,uu,uu,uu,uu] ([]):=by
 exact (ak.ao (sp:=⟨[],[],[]⟩) (n0:=0) (ex:=Ex.exit (0:Nat)) (t':= [uu,uu,uu,uu,uu,uu,uu,uu,uu,uu,uu,uu,uu,uu,uu,uu,uu,uu,uu,uu,uu,uu,uu,uu,uu,uu,uu,uu,uu,uu,uu,uu,uu,uu,uu,uu,uu,uu,uu,uu,uu,uu,uu]) (s':= []) mixed [tC (by ((try simp only [Vu,Vx,Vy,Vv,bm] at*);(try unfold bn at*);omega):(decide ((↑i:Int)<(↑(VD (cz l)):Int)))=false)] (by kernel_rfl)).cast (by rfl) (by rfl)
theorem K0 (l:List Mv) (Pe:l.length≤64) (hl:(cz l).length=l.length) (i:Nat) (hi:i<l.length) (a b:Int) (hx:(cz l)[i]? =some (.agg [.int .i8 a,.int .i8 b])) (ra:fO a=false):ak Tryz.prog (aC Tryz.f98 0) ⟨[2],[],[]⟩ 0 [.aq .no 2 (cz l),uu,uu,.int .i64 (↑i:Int),uu,uu,uu,uu,uu,uu,uu,uu,uu,uu,uu,uu,uu,uu,uu,uu,uu,uu,uu,uu,uu,uu,uu,uu,uu,uu,uu,uu,uu,uu,uu,uu,uu,uu,uu,uu,uu,uu,uu] [] (Ex.ret) [uu,uu,.bool false,uu,uu,uu,uu,uu,uu,uu,uu,uu,uu,uu,uu,uu,uu,uu,uu,uu,uu,uu,uu,uu,uu,uu,uu,uu,uu,uu,uu,uu,uu,uu,uu,uu,uu,uu,uu,uu,uu,uu,uu] ([]):=by
 have c0:= @fw a
 exact (ak.ao (sp:=⟨[2],[],[]⟩) (n0:=0) (ex:=Ex.ret) (t':= [uu,uu,.bool false,uu,uu,uu,uu,uu,uu,uu,uu,uu,uu,uu,uu,uu,uu,uu,uu,uu,uu,uu,uu,uu,uu,uu,uu,uu,uu,uu,uu,uu,uu,uu,uu,uu,uu,uu,uu,uu,uu,uu,uu]) (s':= []) mixed ([tC (by ((try simp only [Vu,Vx,Vy,Vv,bm] at*);(try unfold bn at*);omega):(decide ((↑i:Int)<(↑(VD (cz l)):Int)))=true),tT,.get _ _ _ hx,.ret _ _ _ c0]++Vt 7 (tC (eF (nt ra)))++ [tC (nt ra),tT]) (by kernel_rfl)).cast (by rfl) (by rfl)
theorem KZ (l:List Mv) (Pe:l.length≤64) (hl:(cz l).length=l.length) (i:Nat) (hi:i<l.length) (a b:Int) (hx:(cz l)[i]? =some (.agg [.int .i8 a,.int .i8 b])) (ra:fO a=true) (rb:fO b=false):ak Tryz.prog (aC Tryz.f98 0) ⟨[2],[],[]⟩ 0 [.aq .no 2 (cz l),uu,uu,.int .i64 (↑i:Int),uu,uu,uu,uu,uu,uu,uu,uu,uu,uu,uu,uu,uu,uu,uu,uu,uu,uu,uu,uu,uu,uu,uu,uu,uu,uu,uu,uu,uu,uu,uu,uu,uu,uu,uu,uu,uu,uu,uu] [] (Ex.ret) [uu,uu,.bool false,uu,uu,uu,uu,uu,uu,uu,uu,uu,uu,uu,uu,uu,uu,uu,uu,uu,uu,uu,uu,uu,uu,uu,uu,uu,uu,uu,uu,uu,uu,uu,uu,uu,uu,uu,uu,uu,uu,uu,uu] ([]):=by
 have c0:= @fw a
 have c1:= @fw b
 exact (ak.ao (sp:=⟨[2],[],[]⟩) (n0:=0) (ex:=Ex.ret) (t':= [uu,uu,.bool false,uu,uu,uu,uu,uu,uu,uu,uu,uu,uu,uu,uu,uu,uu,uu,uu,uu,uu,uu,uu,uu,uu,uu,uu,uu,uu,uu,uu,uu,uu,uu,uu,uu,uu,uu,uu,uu,uu,uu,uu]) (s':= []) mixed ([tC (by ((try simp only [Vu,Vx,Vy,Vv,bm] at*);(try unfold bn at*);omega):(decide ((↑i:Int)<(↑(VD (cz l)):Int)))=true),tT,.get _ _ _ hx,.ret _ _ _ c0]++Vt 3 (tC (eF (nt ra)))++ [tT,.get _ _ _ hx]++Vt 3 (tC (eF (nt ra)))++ [.ret _ _ _ c1,tC (eF (nt ra)),tC (nt ra),tC (nt rb)]) (by kernel_rfl)).cast (by rfl) (by rfl)
theorem Hx (l:List Mv) (Pe:l.length≤64) (hl:(cz l).length=l.length) (i:Nat) (hi:i<l.length) (a b:Int) (hx:(cz l)[i]? =some (.agg [.int .i8 a,.int .i8 b])) (ra:fO a=true) (rb:fO b=true) (hd:L5 l i):ak Tryz.prog (aC Tryz.f98 0) ⟨[2],[],[]⟩ 0 [.aq .no 2 (cz l),uu,uu,.int .i64 (↑i:Int),uu,uu,uu,uu,uu,uu,uu,uu,uu,uu,uu,uu,uu,uu,uu,uu,uu,uu,uu,uu,uu,uu,uu,uu,uu,uu,uu,uu,uu,uu,uu,uu,uu,uu,uu,uu,uu,uu,uu] [] (Ex.ret) [uu,uu,.bool false,uu,uu,uu,uu,uu,uu,uu,uu,uu,uu,uu,uu,uu,uu,uu,uu,uu,uu,uu,uu,uu,uu,uu,uu,uu,uu,uu,uu,uu,uu,uu,uu,uu,uu,uu,uu,uu,uu,uu,uu] ([]):=by
 have c0:= @fw a
 have c1:= @fw b
 have c2:= @Fg l Pe i hi hd
 exact (ak.ao (sp:=⟨[2],[],[]⟩) (n0:=0) (ex:=Ex.ret) (t':= [uu,uu,.bool false,uu,uu,uu,uu,uu,uu,uu,uu,uu,uu,uu,uu,uu,uu,uu,uu,uu,uu,uu,uu,uu,uu,uu,uu,uu,uu,uu,uu,uu,uu,uu,uu,uu,uu,uu,uu,uu,uu,uu,uu]) (s':= []) mixed ([tC (by ((try simp only [Vu,Vx,Vy,Vv,bm] at*);(try unfold bn at*);omega):(decide ((↑i:Int)<(↑(VD (cz l)):Int)))=true),tT,.get _ _ _ hx,.ret _ _ _ c0]++Vt 3 (tC (eF (nt ra)))++ [tT,.get _ _ _ hx]++Vt 3 (tC (eF (nt ra)))++ [.ret _ _ _ c1,tC (eF (nt ra)),tC (nt ra),tC (nt rb),.head ⟨[0,3,4],[],[]⟩ _ _ _ _ _ _ _ c2]) (by kernel_rfl)).cast (by rfl) (by rfl)
theorem GU (l:List Mv) (Pe:l.length≤64) (hl:(cz l).length=l.length) (i:Nat) (hi:i<l.length) (a b:Int) (hx:(cz l)[i]? =some (.agg [.int .i8 a,.int .i8 b])) (ra:fO a=true) (rb:fO b=true) (hd:LN l i):ak Tryz.prog (aC Tryz.f98 0) ⟨[0,3],[],[]⟩ 0 [.aq .no 2 (cz l),uu,uu,.int .i64 (↑i:Int),uu,uu,uu,uu,uu,uu,uu,uu,uu,uu,uu,uu,uu,uu,uu,uu,uu,uu,uu,uu,uu,uu,uu,uu,uu,uu,uu,uu,uu,uu,uu,uu,uu,uu,uu,uu,uu,uu,uu] [] .norm [.aq .no 2 (cz l),uu,uu,.int .i64 (W3.i64.wrap ((↑i:Int)+1)),uu,uu,uu,uu,uu,uu,uu,uu,uu,uu,uu,uu,uu,uu,uu,uu,uu,uu,uu,uu,uu,uu,uu,uu,uu,uu,uu,uu,uu,uu,uu,uu,uu,uu,uu,uu,uu,uu,uu] ([]):=by
 have c0:= @fw a
 have c1:= @fw b
 have c2:= @Hz l Pe i hi hd
 exact (ak.ao (sp:=⟨[0,3],[],[]⟩) (n0:=0) (ex:=Ex.norm) (t':= [.aq .no 2 (cz l),uu,uu,.int .i64 (W3.i64.wrap ((↑i:Int)+1)),uu,uu,uu,uu,uu,uu,uu,uu,uu,uu,uu,uu,uu,uu,uu,uu,uu,uu,uu,uu,uu,uu,uu,uu,uu,uu,uu,uu,uu,uu,uu,uu,uu,uu,uu,uu,uu,uu,uu]) (s':= []) mixed ([tC (by ((try simp only [Vu,Vx,Vy,Vv,bm] at*);(try unfold bn at*);omega):(decide ((↑i:Int)<(↑(VD (cz l)):Int)))=true),tT,.get _ _ _ hx,.ret _ _ _ c0]++Vt 3 (tC (eF (nt ra)))++ [tT,.get _ _ _ hx]++Vt 3 (tC (eF (nt ra)))++ [.ret _ _ _ c1,tC (eF (nt ra)),tC (nt ra),tC (nt rb),.head ⟨[0,3,4],[],[]⟩ _ _ _ _ _ _ _ c2]) (by kernel_rfl)).cast (by rfl) (by rfl)
theorem HD (l:List Mv) (Pe:l.length≤64) (hc:(bT l).length=l.length*2) (i:Nat) (h:l.length≤i):ak Tryz.prog (aC Tryz.f68 0) ⟨[],[1000000],[]⟩ 1 [.bP 0 2 (VD l),uu,uu,.int .i64 (↑i:Int),uu,uu,uu,uu,uu,uu,uu,uu,uu,uu,uu,uu,uu,uu,uu,uu,uu,uu,uu,uu,uu,uu,uu,uu,uu,uu,uu,uu,uu,uu,uu,uu,uu,uu,uu] [.box (bT l)] (.exit 0) [uu,uu,uu,uu,uu,uu,uu,uu,uu,uu,uu,uu,uu,uu,uu,uu,uu,uu,uu,uu,uu,uu,uu,uu,uu,uu,uu,uu,uu,uu,uu,uu,uu,uu,uu,uu,uu,uu,uu] ([.box (VY D.aG (bT l))]):=by
 exact (ak.ao (sp:=⟨[],[1000000],[]⟩) (n0:=1) (ex:=Ex.exit (0:Nat)) (t':= [uu,uu,uu,uu,uu,uu,uu,uu,uu,uu,uu,uu,uu,uu,uu,uu,uu,uu,uu,uu,uu,uu,uu,uu,uu,uu,uu,uu,uu,uu,uu,uu,uu,uu,uu,uu,uu,uu,uu]) (s':= [.box (VY D.aG (bT l))]) mixed [tC (by ((try simp only [Vu,Vx,Vy,Vv,bm] at*);(try unfold bn at*);omega):(decide ((↑i:Int)<(↑(VD l):Int)))=false),.cl (bT l) (by first|exact cO rfl|exact aZ _)] (by kernel_rfl)).cast (by rfl) (by rfl)
theorem HC (l:List Mv) (Pe:l.length≤64) (hc:(bT l).length=l.length*2) (i:Nat) (hi:i<l.length) (hf:Hm l i=true):ak Tryz.prog (aC Tryz.f68 0) ⟨[2],[1000000],[]⟩ 1 [.bP 0 2 (VD l),uu,uu,.int .i64 (↑i:Int),uu,uu,uu,uu,uu,uu,uu,uu,uu,uu,uu,uu,uu,uu,uu,uu,uu,uu,uu,uu,uu,uu,uu,uu,uu,uu,uu,uu,uu,uu,uu,uu,uu,uu,uu] [.box (bT l)] (Ex.ret) [uu,uu,.int .i64 (↑i:Int),uu,uu,uu,uu,uu,uu,uu,uu,uu,uu,uu,uu,uu,uu,uu,uu,uu,uu,uu,uu,uu,uu,uu,uu,uu,uu,uu,uu,uu,uu,uu,uu,uu,uu,uu,uu] ([.box (VY D.aG (bT l))]):=by
 have c0:= @My l Pe i hi
 exact (ak.ao (sp:=⟨[2],[1000000],[]⟩) (n0:=1) (ex:=Ex.ret) (t':= [uu,uu,.int .i64 (↑i:Int),uu,uu,uu,uu,uu,uu,uu,uu,uu,uu,uu,uu,uu,uu,uu,uu,uu,uu,uu,uu,uu,uu,uu,uu,uu,uu,uu,uu,uu,uu,uu,uu,uu,uu,uu,uu]) (s':= [.box (VY D.aG (bT l))]) mixed [tC (by ((try simp only [Vu,Vx,Vy,Vv,bm] at*);(try unfold bn at*);omega):(decide ((↑i:Int)<(↑(VD l):Int)))=true),.head ⟨[0,3,4,5],[1000000],[]⟩ _ _ _ _ _ _ _ c0,.cl (bT l) (by first|exact cO rfl|exact aZ _),tC hf,.cl (bT l) (by first|exact cO rfl|exact aZ _)] (by kernel_rfl)).cast (by rfl) (by rfl)
theorem GY (l:List Mv) (Pe:l.length≤64) (hc:(bT l).length=l.length*2) (i:Nat) (hi:i<l.length) (hf:Hm l i=false):ak Tryz.prog (aC Tryz.f68 0) ⟨[0,3],[1000000],[]⟩ 1 [.bP 0 2 (VD l),uu,uu,.int .i64 (↑i:Int),uu,uu,uu,uu,uu,uu,uu,uu,uu,uu,uu,uu,uu,uu,uu,uu,uu,uu,uu,uu,uu,uu,uu,uu,uu,uu,uu,uu,uu,uu,uu,uu,uu,uu,uu] [.box (bT l)] .norm [.bP 0 2 (VD l),uu,uu,.int .i64 (W3.i64.wrap ((↑i:Int)+1)),uu,uu,uu,uu,uu,uu,uu,uu,uu,uu,uu,uu,uu,uu,uu,uu,uu,uu,uu,uu,uu,uu,uu,uu,uu,uu,uu,uu,uu,uu,uu,uu,uu,uu,uu] ([.box (VY D.aG (bT l))]):=by
 have c0:= @My l Pe i hi
 exact (ak.ao (sp:=⟨[0,3],[1000000],[]⟩) (n0:=1) (ex:=Ex.norm) (t':= [.bP 0 2 (VD l),uu,uu,.int .i64 (W3.i64.wrap ((↑i:Int)+1)),uu,uu,uu,uu,uu,uu,uu,uu,uu,uu,uu,uu,uu,uu,uu,uu,uu,uu,uu,uu,uu,uu,uu,uu,uu,uu,uu,uu,uu,uu,uu,uu,uu,uu,uu]) (s':= [.box (VY D.aG (bT l))]) mixed [tC (by ((try simp only [Vu,Vx,Vy,Vv,bm] at*);(try unfold bn at*);omega):(decide ((↑i:Int)<(↑(VD l):Int)))=true),.head ⟨[0,3,4,5],[1000000],[]⟩ _ _ _ _ _ _ _ c0,.cl (bT l) (by first|exact cO rfl|exact aZ _),tC hf,.cl (bT l) (by first|exact cO rfl|exact aZ _)] (by kernel_rfl)).cast (by rfl) (by rfl)
def EY (l:List Mv) (i:Nat):List Int:=((l.take i).map Prod.fst).reverse
theorem wu (l:List Mv) (i:Nat) (h:i<l.length):EY l (i+1)=l[i].1::EY l i:=by
 unfold EY
 rw [List.take_add_one,V8 h,List.map_append,List.reverse_append]
 rfl
theorem Eu {l:List Mv} {i:Nat} (hi:i<l.length) (h:(EY l i).contains l[i].1=false):LN l i:=by
 intro j hj _ Va
 rw [beq_eq_false_iff_ne]
 intro e
 rw [List.contains_eq_mem,decide_eq_false_iff_not] at h
 apply h
 unfold EY
 rw [List.mem_reverse,← e]
 exact List.mem_map_of_mem (List.mem_iff_getElem.2 ⟨j,by rw [List.length_take];omega,by simp⟩)
theorem IG {l:List Mv} {i:Nat} (hi:i<l.length) (h:(EY l i).contains l[i].1=true):L5 l i:=by
 rw [List.contains_eq_mem,decide_eq_true_eq] at h
 unfold EY at h
 rw [List.mem_reverse,List.mem_map] at h
 obtain ⟨p,hp,e⟩:=h
 obtain ⟨j,hj,rfl⟩:=List.mem_iff_getElem.1 hp
 rw [List.length_take] at hj
 refine ⟨j,by omega,hi,by omega,?_⟩
 rw [beq_iff_eq,← e]
 simp
abbrev Mp (l:List Mv) (i:Nat):List D:= [.aq .no 2 (cz l),.undef,.undef,.int .i64 (i:Int),.undef,.undef,.undef,.undef,.undef,.undef,.undef,.undef,.undef,.undef,.undef,.undef,.undef,.undef,.undef,.undef,.undef,.undef,.undef,.undef,.undef,.undef,.undef,.undef,.undef,.undef,.undef,.undef,.undef,.undef,.undef,.undef,.undef,.undef,.undef,.undef,.undef,.undef,.undef]
abbrev Mq:List D:= [.undef,.undef,.undef,.undef,.undef,.undef,.undef,.undef,.undef,.undef,.undef,.undef,.undef,.undef,.undef,.undef,.undef,.undef,.undef,.undef,.undef,.undef,.undef,.undef,.undef,.undef,.undef,.undef,.undef,.undef,.undef,.undef,.undef,.undef,.undef,.undef,.undef,.undef,.undef,.undef,.undef,.undef,.undef]
theorem CK (l:List Mv) (Pe:l.length≤64):∀(n i:Nat),i+n=l.length→lY (EY l i) (l.drop i)=true→
  aA Tryz.prog (aC Tryz.f98 0) 0 (Mp l i) [] (.exit 0) Mq []
 |0,i,hk,_=>aA.last (Hw l Pe (cW l) i (by omega)) (fun h=>by cases h)
 |n+1,i,hk,h=>by
  have Pd:i<l.length:=by omega
  rw [VT Pd,lY] at h
  simp only [VG,Wn] at h
  obtain ⟨h1,h2,h3,h4⟩:=h
  have:=GU l Pe (cW l) i Pd l[i].1 l[i].2 (dk Pd) h2 h3 (Eu Pd h1)
  rw [lO (by omega)] at this
  exact aA.bZ this (CK l Pe n (i+1) (by omega) (by rw [wu l i Pd];exact h4))
theorem GV (l:List Mv) (Pe:l.length≤64):∀(n i:Nat),i+n=l.length→lY (EY l i) (l.drop i)=false→
  aA Tryz.prog (aC Tryz.f98 0) 0 (Mp l i) [] .ret Kx []
 |0,i,hk,h=>by
  obtain rfl:i=l.length:=by omega
  rw [Wl] at h
  cases h
 |n+1,i,hk,h=>by
  have Pd:i<l.length:=by omega
  rw [VT Pd,lY] at h
  cases h2:fO l[i].1 with
  |false=>exact aA.last (K0 l Pe (cW l) i Pd l[i].1 l[i].2 (dk Pd) h2) (fun h=>by cases h)
  |true=>
   cases h3:fO l[i].2 with
   |false=>exact aA.last (KZ l Pe (cW l) i Pd l[i].1 l[i].2 (dk Pd) h2 h3) (fun h=>by cases h)
   |true=>
    cases h1:(EY l i).contains l[i].1 with
    |true=>exact aA.last (Hx l Pe (cW l) i Pd l[i].1 l[i].2 (dk Pd) h2 h3 (IG Pd h1)) (fun h=>by cases h)
    |false=>
     rw [h1,h2,h3] at h
     have:=GU l Pe (cW l) i Pd l[i].1 l[i].2 (dk Pd) h2 h3 (Eu Pd h1)
     rw [lO (by omega)] at this
     exact aA.bZ this (GV l Pe n (i+1) (by omega) (by rw [wu l i Pd];exact h))
abbrev I9 (l:List Mv):List D:= [.aq .no 2 (cz l),.undef,.undef,.int .i64 0,.undef,.undef,.undef,.undef,.undef,.undef,.undef,.undef,.undef,.undef,.undef,.undef,.undef,.undef,.undef,.undef,.undef,.undef,.undef,.undef,.undef,.undef,.undef,.undef,.undef,.undef,.undef,.undef,.undef,.undef,.undef,.undef,.undef,.undef,.undef,.undef,.undef,.undef,.undef]
theorem Fc (l:List Mv) (Pe:l.length≤64) (h:lY [] l=true):aI Tryz.prog 0 (.loop (aC Tryz.f98 0)) (I9 l) [] (.exit 0) Mq []:=aI.bf (VF _) (CK l Pe l.length 0 (by omega) h)
theorem Hv (l:List Mv) (Pe:l.length≤64) (h:lY [] l=false):aI Tryz.prog 0 (.loop (aC Tryz.f98 0)) (I9 l) [] .ret Kx []:=aI.bf (VF _) (GV l Pe l.length 0 (by omega) h)
abbrev Mu (n i:Nat):List D:= [.bP 0 2 n,.undef,.undef,.int .i64 (i:Int),.undef,.undef,.undef,.undef,.undef,.undef,.undef,.undef,.undef,.undef,.undef,.undef,.undef,.undef,.undef,.undef,.undef,.undef,.undef,.undef,.undef,.undef,.undef,.undef,.undef,.undef,.undef,.undef,.undef,.undef,.undef,.undef,.undef,.undef,.undef]
abbrev Mx:List D:= [.undef,.undef,.undef,.undef,.undef,.undef,.undef,.undef,.undef,.undef,.undef,.undef,.undef,.undef,.undef,.undef,.undef,.undef,.undef,.undef,.undef,.undef,.undef,.undef,.undef,.undef,.undef,.undef,.undef,.undef,.undef,.undef,.undef,.undef,.undef,.undef,.undef,.undef,.undef]
abbrev Mw (j:Nat):List D:= [.undef,.undef,.int .i64 (j:Int),.undef,.undef,.undef,.undef,.undef,.undef,.undef,.undef,.undef,.undef,.undef,.undef,.undef,.undef,.undef,.undef,.undef,.undef,.undef,.undef,.undef,.undef,.undef,.undef,.undef,.undef,.undef,.undef,.undef,.undef,.undef,.undef,.undef,.undef,.undef,.undef]
theorem oH {l:List Mv} {i:Nat} (h:i<l.length):Hm l i=pR l[i].1 i l 0:=by
 unfold Hm
 rw [VJ,V8 h,Option.getD_some]
theorem zL (l:List Mv) (Pe:l.length≤64) (j:Nat):∀(n i:Nat),i+n=l.length→y9 l (l.drop i) i=some j→
  aA Tryz.prog (aC Tryz.f68 0) 1 (Mu l.length i) [.box (bT l)] .ret (Mw j) [.box (bT l)]
 |0,i,hk,h=>by
  obtain rfl:i=l.length:=by omega
  rw [Wl] at h
  cases h
 |n+1,i,hk,h=>by
  have Pd:i<l.length:=by omega
  rw [VT Pd,y9] at h
  cases hf:Hm l i with
  |true=>
   rw [oH Pd] at hf
   rw [if_pos hf] at h
   rw [← Option.some.inj h]
   have:=HC l Pe (ct l) i Pd (by rw [oH Pd];exact hf)
   rw [aW] at this
   exact aA.last this (fun h=>by cases h)
  |false=>
   have:=GY l Pe (ct l) i Pd hf
   rw [oH Pd] at hf
   rw [hf,if_neg (by simp)] at h
   rw [lO (by omega),aW] at this
   exact aA.bZ this (zL l Pe j n (i+1) (by omega) h)
theorem zM (l:List Mv) (Pe:l.length≤64):∀(n i:Nat),i+n=l.length→y9 l (l.drop i) i=none→
  aA Tryz.prog (aC Tryz.f68 0) 1 (Mu l.length i) [.box (bT l)] (.exit 0) Mx [.box (bT l)]
 |0,i,hk,h=>by
  have:=HD l Pe (ct l) i (by omega)
  rw [aW] at this
  exact aA.last this (fun h=>by cases h)
 |n+1,i,hk,h=>by
  have Pd:i<l.length:=by omega
  rw [VT Pd,y9] at h
  cases hf:Hm l i with
  |true=>
   rw [oH Pd] at hf
   rw [if_pos hf] at h
   cases h
  |false=>
   have:=GY l Pe (ct l) i Pd hf
   rw [oH Pd] at hf
   rw [hf,if_neg (by simp)] at h
   rw [lO (by omega),aW] at this
   exact aA.bZ this (zM l Pe n (i+1) (by omega) h)
abbrev Jd (n:Nat):List D:= [.bP 0 2 n,.undef,.undef,.int .i64 0,.undef,.undef,.undef,.undef,.undef,.undef,.undef,.undef,.undef,.undef,.undef,.undef,.undef,.undef,.undef,.undef,.undef,.undef,.undef,.undef,.undef,.undef,.undef,.undef,.undef,.undef,.undef,.undef,.undef,.undef,.undef,.undef,.undef,.undef,.undef]
theorem CN (l:List Mv) (Pe:l.length≤64) (ne:∀p∈l,p.1≠p.2) (j:Nat) (h:dU l l 0=some j):aI Tryz.prog 1 (.loop (aC Tryz.f68 0)) (Jd l.length) [.box (VY D.aG (bT l))] .ret (Mw j) [.box (bT l)]:=by
 rw [aW]
 exact aI.bf (VF _) (zL l Pe j l.length 0 (by omega) ((sZ l ne l.length 0 (by omega)).trans h))
theorem CO (l:List Mv) (Pe:l.length≤64) (ne:∀p∈l,p.1≠p.2) (h:dU l l 0=none):aI Tryz.prog 1 (.loop (aC Tryz.f68 0)) (Jd l.length) [.box (VY D.aG (bT l))] (.exit 0) Mx [.box (bT l)]:=by
 rw [aW]
 exact aI.bf (VF _) (zM l Pe l.length 0 (by omega) ((sZ l ne l.length 0 (by omega)).trans h))
theorem tJ (l:List Mv) (Pe:l.length≤64) (h:lY [] l=true):aJ Tryz.prog 98 ([.aq .no 2 (cz l)]) (.bool true):=by
 have c0:= @Fc l Pe h
 exact (M9 (d:= .bool true) [.head ⟨[0,3],[],[]⟩ _ _ _ _ _ _ _ c0] (by kernel_rfl)).to (by simp [wk,ay,aB, *])
theorem tK (l:List Mv) (Pe:l.length≤64) (h:lY [] l=false):aJ Tryz.prog 98 ([.aq .no 2 (cz l)]) (.bool false):=by
 have c0:= @Hv l Pe h
 exact (M9 (d:= .bool false) [.head ⟨[0,3],[],[]⟩ _ _ _ _ _ _ _ c0] (by kernel_rfl)).to (by simp [wk,ay,aB, *])
theorem AO (l:List Mv) (Pe:l.length≤64) (sc:Int) (h2:fO sc=false):aJ Tryz.prog 67 ([.aq .no 2 (cz l),.int .i8 sc]) (.bool false):=by
 have c0:= @fw sc
 exact (KG (d:= .bool false) ([.ret _ _ _ c0]++Vt 3 (tC (eF (nt h2)))++ [tC (nt h2),tT]) (by kernel_rfl)).to (by simp [wk,ay,aB, *])
theorem AQ (l:List Mv) (Pe:l.length≤64) (sc:Int) (h2:fO sc=true) (hn:aJ Tryz.prog 98 [.aq .no 2 (cz l)] (.bool false)):aJ Tryz.prog 67 ([.aq .no 2 (cz l),.int .i8 sc]) (.bool false):=by
 have c0:= @fw sc
 exact (KG (d:= .bool false) [.ret _ _ _ c0,tC (eF (nt h2)),tC (eF (nt h2)),.ret _ _ _ hn,tC (eF (nt h2)),tC (nt h2),tT] (by kernel_rfl)).to (by simp [wk,ay,aB, *])
theorem AN (l:List Mv) (Pe:l.length≤64) (sc:Int) (h2:fO sc=true) (h:ofM sc l=true) (hn:aJ Tryz.prog 98 [.aq .no 2 (cz l)] (.bool true)):aJ Tryz.prog 67 ([.aq .no 2 (cz l),.int .i8 sc]) (.bool true):=by
 have c0:= @fw sc
 have c1:= @Fa l Pe sc h
 exact (KG (d:= .bool true) [.ret _ _ _ c0,tC (eF (nt h2)),tC (eF (nt h2)),.ret _ _ _ hn,tC (eF (nt h2)),tC (nt h2),tF,.head ⟨[0,1,5],[],[]⟩ _ _ _ _ _ _ _ c1] (by kernel_rfl)).to (by simp [wk,ay,aB, *])
theorem AP (l:List Mv) (Pe:l.length≤64) (sc:Int) (h2:fO sc=true) (h:ofM sc l=false) (hn:aJ Tryz.prog 98 [.aq .no 2 (cz l)] (.bool true)):aJ Tryz.prog 67 ([.aq .no 2 (cz l),.int .i8 sc]) (.bool false):=by
 have c0:= @fw sc
 have c1:= @Hs l Pe sc h
 exact (KG (d:= .bool false) [.ret _ _ _ c0,tC (eF (nt h2)),tC (eF (nt h2)),.ret _ _ _ hn,tC (eF (nt h2)),tC (nt h2),tF,.head ⟨[0,1,5],[],[]⟩ _ _ _ _ _ _ _ c1] (by kernel_rfl)).to (by simp [wk,ay,aB, *])
theorem wU (l:List Mv) (Pe:l.length≤64) (ne:∀p∈l,p.1≠p.2) (j:Nat) (hj:dU l l 0=some j):bW Tryz.prog 68 ([.bP 0 2 l.length]) ([.box (bT l)]) (.int .i64 (j:Int)) ([.box (bT l)]):=by
 have c0:= @CN l Pe ne _ hj
 exact (bW.ao (bO:= [0]) (d:= .int .i64 (↑j:Int)) (s':= [.box (bT l)]) mixed [.head ⟨[0,3],[1000000],[]⟩ _ _ _ _ _ _ _ c0,.cl (bT l) (by first|exact cO rfl|exact aZ _)] (by kernel_rfl)).cast (by rfl) (by rfl)
theorem wV (l:List Mv) (Pe:l.length≤64) (ne:∀p∈l,p.1≠p.2) (hj:dU l l 0=none):bW Tryz.prog 68 ([.bP 0 2 l.length]) ([.box (bT l)]) (.int .i64 (-1)) ([.box (bT l)]):=by
 have c0:= @CO l Pe ne hj
 exact (bW.ao (bO:= [0]) (d:= .int .i64 (-1)) (s':= [.box (bT l)]) mixed [.head ⟨[0,3],[1000000],[]⟩ _ _ _ _ _ _ _ c0,.cl (bT l) (by first|exact cO rfl|exact aZ _)] (by kernel_rfl)).cast (by rfl) (by rfl)
end Go.Proofs.YtkpneibifdoecaaGreat
