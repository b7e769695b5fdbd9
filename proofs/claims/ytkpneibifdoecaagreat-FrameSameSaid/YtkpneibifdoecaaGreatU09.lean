import Derived.Test.YtkpneibifdoecaaGreatU02
import Derived.Test.YtkpneibifdoecaaGreatU05
import Derived.Test.YtkpneibifdoecaaGreatU06
import Derived.Test.YtkpneibifdoecaaGreatU08
open List renaming length_cons→Vf,length_map→Vl,getD_eq_getElem?_getD→Vr,getElem?_eq_none→Vw,getElem?_map→VC,all_eq_true→VP,getElem?_eq_getElem→V3,mem_cons→V6,getElem?_cons_succ→V8,map_cons→WG
open Bool renaming and_eq_true→Vi,not_eq_true'→Vm
open Option.some renaming inj→Vk,injEq→Vs
open Nat renaming le_refl→Vq,lt_or_ge→VA,beq_eq→VJ,zero_add→VT,mul_le_mul_right→V7,le_trans→Wo
open Option renaming map_eq_some_iff→Vz
open Array renaming getElem?_append_left→V0,size_append→Wj
/- Contracts and plain laws that a statement's proof leans on (texts merged:MdK1,MdK2,MdK3,MdK4,MdMv,MdHo,RF2,MdMw,MW1,MW1A,MW2,MW2A,MW3,EvZ,MW3A). -/
set_option linter.unusedVariables false
set_option linter.unusedSimpArgs false
set_option maxRecDepth 100000
set_option maxHeartbeats 8000000
namespace Go.Ev
open Go
def iE.may (x:iE):Bool:=Jn x.kind x.op x.width x.size x.du x.dst x.src x.off x.ai
def Ow (l:List iE):List D:=l.map iE.d
def Cx (i kind off:Int):Bool:=(kind==3||kind==4)&&(decide (-1099511627776≤i∧i≤1099511627776)&&decide (-1099511627776≤off∧off≤1099511627776))
def Am (i kind off:Int):Int:=if Cx i kind off=true then i+1+off else 0
def Ej (n:Int):Int→List iE→Option (Int×Int)
  |_,[]=>none
  |i,x::r=>if x.may=false then some (i,31) else if Cx i x.kind x.off=true∧¬(0≤Am i x.kind x.off∧Am i x.kind x.off<n) then some (i,32) else Ej n (i+1) r
def s7 (l:List iE) (i:Nat):Int:=match l[i]? with|some x=>x.kind|none=>0
def Lr (ctx:Int) (l:List iE):Int×Int:=
  if ctx<0∨256<ctx then (0,2) else if l.length<1∨64<l.length then (0,3)
  else match Ej l.length 0 l with
    |some r=>r
    |none=>if s7 l (l.length - 1)=4∨s7 l (l.length - 1)=6 then (0,0) else (l.length - 1,33)
theorem pG (es:List (Int×D)) (n:Int) (v:D) (m:Int):dR (fq es n v) m=if m=n then some v else dR es m:=by
 induction es with
 |nil=>
  by_cases h:m=n
  ·subst h;simp [fq,dR]
  ·have:(m==n)=false:=by simpa using h
   simp [fq,dR,this,h]
 |cons p r ih=>
  obtain ⟨a,d⟩:=p
  rw [fq]
  by_cases hn:n=a
  ·subst hn
   simp only [beq_self_eq_true]
   by_cases h:m=n
   ·subst h;simp [dR]
   ·have:(m==n)=false:=by simpa using h
    simp [dR,this,h]
  ·have e:(n==a)=false:=by simpa using hn
   simp only [e]
   by_cases h:m=a
   ·subst h
    have:¬m=n:=fun q=>hn q.symm
    simp [dR,this]
   ·have e2:(m==a)=false:=by simpa using h
    simp only [dR,e2]
    exact ih
def CB (k:Int):Bool:=k==3||k==4||k==6
def Iw (es:List (Int×D)) (k:Int) (x:iE):List (Int×D):=
  if Cx k x.kind x.off=true then fq (if CB x.kind=true then fq es (k+1) (.bool true) else es) (Am k x.kind x.off) (.bool true)
  else if CB x.kind=true then fq es (k+1) (.bool true) else es
def J1 (l:List iE):Nat→List (Int×D)
  |0=> [(0,.bool true)]
  |k+1=>match l[k]? with
    |some x=>Iw (J1 l k) k x
    |none=>J1 l k
def Lu (l:List iE) (k:Nat) (i:Int):Bool:=match l[k]? with
  |some x=>(CB x.kind&&i==(k:Int)+1)||(Cx k x.kind x.off&&i==Am k x.kind x.off)
  |none=>false
def J0 (l:List iE) (i:Int):Nat→Bool
  |0=>i==0
  |k+1=>J0 l i k||Lu l k i
def NJ (l:List iE) (i:Int):Bool:=J0 l i l.length
structure OC (l:List iE):Prop where
  pos:1≤l.length
  le:l.length≤64
  may:∀j (h:j<l.length),l[j].may=true
  N8:∀j (h:j<l.length),Cx j l[j].kind l[j].off=true→0≤Am j l[j].kind l[j].off∧Am j l[j].kind l[j].off<l.length
  last:s7 l (l.length - 1)=4∨s7 l (l.length - 1)=6
theorem sJ {l:List D} {i:Nat} {x:D} (h:(i:Int)<(l.length:Int)):Aj l i [x] (l.set i x):=by
 refine ⟨?_,by simp;omega⟩
 rw [List.set_eq_take_append_cons_drop,if_pos (by omega)]
 rfl
theorem dD {l:List D} {i:Nat} {x:D} (h:∀c∈l,c.clean=true) (hx:x.clean=true):∀c∈l.set i x,c.clean=true:=by
 intro c hc
 rcases List.mem_or_eq_of_mem_set hc with q|rfl
 ·exact h c q
 ·exact hx
theorem gY {l m:List D} (h:∀c∈l,c.clean=true) (hm:m.all D.clean=true):∀c∈l++m,c.clean=true:=by
 intro c hc
 rcases List.mem_append.1 hc with q|q
 ·exact h c q
 ·exact VP.1 hm c q
abbrev Mv:=Int×Int
def fS:List Int→Int→Nat
  | [],_=>0
  |b::r,a=>(if b=a then 1 else 0)+fS r a
theorem wq (a:Int):∀(l m:List Int),fS (l++m) a=fS l a+fS m a
 | [],m=>by simp [fS]
 |b::l,m=>by simp only [List.cons_append,fS,wq a l m];omega
theorem qc (a:Int):∀(l:List Int),0<fS l a↔a∈l
 | []=>by simp [fS]
 |b::l=>by
  rw [fS,V6,← qc a l]
  by_cases h:b=a
  ·subst h;simp;omega
  ·have:¬a=b:=fun e=>h e.symm
   simp [h,this]
theorem Ae (a:Int):∀(l:List Int),fS l a≤l.length
 | []=>by simp [fS]
 |b::l=>by
  have:=Ae a l
  rw [fS,Vf]
  by_cases h:b=a<;>simp [h]<;>omega
def fY (all:List Mv):List Mv→Nat→Option Nat
  | [],_=>none
  |p::r,i=>if fS (all.map Prod.snd) p.1=0 then some i else fY all r (i+1)
def iH (sc:Int):Nat→List Mv→List Mv
  |0,_=> []
  |_+1,[]=> []
  |f+1,p::r=>match fY (p::r) (p::r) 0 with
    |some k=>(p::r).getD k (0,0)::iH sc f ((p::r).eraseIdx k)
    |none=>(sc,p.2)::iH sc f ((p::r).map fun q=>if q.2=p.2 then (q.1,sc) else q)
def NF:List Mv→(Int→Int)→Int→Int
  | [],R=>R
  |p::r,R=>NF r fun x=>if x=p.1 then R p.2 else R x
def hP (sc:Int):List Mv→Nat
  | []=>0
  |p::r=>(if p.2=sc then 0 else 1)+hP sc r
theorem sR (sc:Int):∀l,hP sc l≤l.length
 | []=>by simp [hP]
 |p::r=>by
  have:=sR sc r
  rw [hP,Vf]
  by_cases h:p.2=sc<;>simp [h]<;>omega
theorem zG (sc:Int):∀l:List Mv,(∃p∈l,p.2=sc)→hP sc l<l.length
 | [],⟨_,h,_⟩=>by simp at h
 |p::r,⟨q,h,e⟩=>by
  have h1:=sR sc r
  rw [hP,Vf]
  by_cases hp:p.2=sc
  ·simp [hp];omega
  ·rcases V6.1 h with rfl|h
   ·exact absurd e hp
   ·have:=zG sc r ⟨q,h,e⟩
    simp [hp];omega
theorem pq (sc:Int):∀(l:List Mv) (k:Nat),hP sc (l.eraseIdx k)≤hP sc l
 | [],k=>by simp [hP]
 |p::r,0=>by rw [List.eraseIdx_cons_zero,hP];omega
 |p::r,k+1=>by rw [List.eraseIdx_cons_succ,hP,hP];have:=pq sc r k;omega
theorem vv (sc f:Int) (hf:f≠sc):∀(l:List Mv),hP sc (l.map fun q=>if q.2=f then (q.1,sc) else q)≤hP sc l∧((∃p∈l,p.2=f)→hP sc (l.map fun q=>if q.2=f then (q.1,sc) else q)<hP sc l)
 | []=>by simp [hP]
 |p::r=>by
  obtain ⟨h1,h2⟩:=vv sc f hf r
  rw [WG,hP,hP]
  by_cases h:p.2=f
  ·have:¬p.2=sc:=by rw [h];exact hf
   simp only [h,if_true,hf,if_false]
   constructor<;>(try intro _)<;>omega
  ·simp only [h,if_false]
   refine ⟨by omega,?_⟩
   rintro ⟨q,hq,e⟩
   rcases V6.1 hq with rfl|hq
   ·exact absurd e h
   ·have:=h2 ⟨q,hq,e⟩;omega
theorem hole:∀(l m:List Int),l.Nodup→(∀a∈l,a∈m)→l.length≤m.length
 | [],m,_,_=>by simp
 |a::l,m,hn,h=>by
  have ha:=h a (by simp)
  have RH:=List.nodup_cons.1 hn
  have:=hole l (m.erase a) RH.2 (fun b hb=>by
   have O0:b≠a:=fun e=>RH.1 (e▸hb)
   exact (List.mem_erase_of_ne O0).2 (h b (by simp [hb])))
  rw [List.length_erase_of_mem ha] at this
  have hp:0<m.length:=List.length_pos_of_mem ha
  rw [Vf];omega
theorem pk (all:List Mv):∀(l:List Mv) (i:Nat),fY all l i=none→∀p∈l,p.1∈all.map Prod.snd
 | [],_,_,p,hp=>by simp at hp
 |q::r,i,h,p,hp=>by
  rw [fY] at h
  split at h
  ·cases h
  ·rename_i hc
   rcases V6.1 hp with rfl|hp
   ·exact (qc _ _).1 (by omega)
   ·exact pk all r (i+1) h p hp
theorem pj (all:List Mv):∀(l:List Mv) (i k:Nat),fY all l i=some k→∃j p,k=i+j∧l[j]? =some p∧p.1∉all.map Prod.snd
 | [],_,_,h=>by simp [fY] at h
 |q::r,i,k,h=>by
  rw [fY] at h
  split at h
  ·rename_i hc
   cases h
   refine ⟨0,q,rfl,rfl,fun hm=> ?_⟩
   have:=(qc _ _).2 hm
   omega
  ·obtain ⟨j,p,e,h1,h2⟩:=pj all r (i+1) k h
   exact ⟨j+1,p,by omega,h1,h2⟩
theorem v3 (sc:Int):∀l:List Mv,((l.map Prod.snd).filter fun a=> !(a==sc)).length=hP sc l
 | []=>rfl
 |p::r=>by
  rw [WG,hP,← v3 sc r]
  by_cases h:p.2=sc
  ·simp [h]
  ·simp [h];omega
theorem Ax (sc:Int) (l:List Mv) (hn:(l.map Prod.fst).Nodup) (hs:sc∉l.map Prod.fst) (h:fY l l 0=none):∀p∈l,p.2≠sc:=by
 intro p hp e
 have h1:=hole (l.map Prod.fst) ((l.map Prod.snd).filter fun a=> !(a==sc)) hn (fun a ha=>by
  obtain ⟨q,hq,rfl⟩:=List.mem_map.1 ha
  refine List.mem_filter.2 ⟨pk l l 0 h q hq,?_⟩
  have:q.1≠sc:=fun e=>hs (e▸ha)
  simpa using this)
 rw [v3,Vl] at h1
 have:=zG sc l ⟨p,hp,e⟩
 omega
theorem B5 (l:List Mv) (k:Nat):∀q∈l.eraseIdx k,q∈l:=fun q h=>List.mem_of_mem_eraseIdx h
structure qM (sc:Int) (l:List Mv):Prop where
  nd:(l.map Prod.fst).Nodup
  sc:sc∉l.map Prod.fst
  ne:∀p∈l,p.1≠p.2
theorem qM.erase {sc:Int} {l:List Mv} (h:qM sc l) (k:Nat):qM sc (l.eraseIdx k):=by
 have hs:((l.eraseIdx k).map Prod.fst).Sublist (l.map Prod.fst):=(List.eraseIdx_sublist l k).map _
 exact ⟨hs.nodup h.nd,fun q=>h.sc (hs.subset q),fun p hp=>h.ne p (B5 l k p hp)⟩
theorem uv (sc f:Int) (l:List Mv):(l.map fun q=>if q.2=f then (q.1,sc) else q).map Prod.fst=l.map Prod.fst:=by
 rw [List.map_map]
 congr 1
 funext q
 by_cases h:q.2=f<;>simp [h]
theorem qM.swap {sc:Int} {l:List Mv} (h:qM sc l) (f:Int):qM sc (l.map fun q=>if q.2=f then (q.1,sc) else q):=by
 refine ⟨by rw [uv];exact h.nd,by rw [uv];exact h.sc,fun p hp=> ?_⟩
 obtain ⟨q,hq,rfl⟩:=List.mem_map.1 hp
 by_cases e:q.2=f
 ·simp only [e,if_true]
  exact fun e2=>h.sc (e2▸List.mem_map_of_mem hq)
 ·simp only [e,if_false]
  exact h.ne q hq
def l9 (r:Int):Bool:=decide (0≤r)&&decide (r<16)
def eN (l:List Mv):List D:=l.map fun p=> .agg [.int .i8 p.1,.int .i8 p.2]
def dU:List Mv→List D
  | []=> []
  |p::r=> .int .i8 p.1:: .int .i8 p.2::dU r
theorem sT:∀l m:List Mv,dU (l++m)=dU l++dU m
 | [],m=>rfl
 |p::r,m=>by rw [List.cons_append,dU,dU,sT r m];rfl
theorem ey:∀l:List Mv,(dU l).length=l.length*2
 | []=>rfl
 |p::r=>by rw [dU,Vf,Vf,ey r,Vf];omega
theorem cm:∀l:List Mv,∀c∈dU l,c.clean=true
 | [],c,h=>by simp [dU] at h
 |p::r,c,h=>by
  rw [dU] at h
  rcases V6.1 h with rfl|h
  ·rfl
  rcases V6.1 h with rfl|h
  ·rfl
  exact cm r c h
theorem ca:∀l:List Mv,(dU l).map D.aJ=dU l
 | []=>rfl
 |p::r=>by rw [dU,WG,WG,ca r];rfl
theorem pw:∀(l:List Mv) (k:Nat),(dU l).drop (k*2)=dU (l.drop k)
 | [],k=>by simp [dU]
 |p::r,0=>by simp
 |p::r,k+1=>by
  rw [List.drop_succ_cons,← pw r k,dU,show (k+1)*2=k*2+1+1 by omega,List.drop_succ_cons,List.drop_succ_cons]
theorem vz:∀(l:List Mv) (k:Nat),(dU l).take (k*2)=dU (l.take k)
 | [],k=>by simp [dU]
 |p::r,0=>by simp [dU]
 |p::r,k+1=>by
  rw [List.take_succ_cons,dU,dU,← vz r k,show (k+1)*2=k*2+1+1 by omega,List.take_succ_cons,List.take_succ_cons]
theorem ku {l:List Mv} {k:Nat} (h:k<l.length):hH (dU l) (k*2) 2 [.int .i8 l[k].1,.int .i8 l[k].2]:=by
 refine ⟨?_,by rw [ey];omega⟩
 rw [pw,List.drop_eq_getElem_cons h]
 rfl
theorem AZ {l:List Mv} {k:Nat} (h:k≤l.length):hH (dU l) 0 (k*2) (dU (l.take k)):=by
 refine ⟨?_,by rw [ey];omega⟩
 rw [List.drop_zero,vz]
theorem Dz {l:List Mv} {k n:Nat} (hk:k≤l.length) (hn:n=l.length - k):hH (dU l) (k*2) (n*2) (dU (l.drop k)):=by
 subst hn
 refine ⟨?_,by rw [ey];omega⟩
 rw [pw,List.take_of_length_le]
 rw [ey,List.length_drop]
 omega
theorem vA:∀(l:List Mv) (k:Nat) (h:k<l.length),(dU l)[k*2+1]? =some (.int .i8 l[k].2)
 |p::r,0,h=>rfl
 |p::r,k+1,h=>by
  rw [dU,show (k+1)*2+1=(k*2+1)+1+1 by omega,V8,V8]
  exact vA r k (by simpa using h)
theorem zQ:∀(l:List Mv) (k:Nat) (h:k<l.length) (v:Int),(dU l).set (k*2+1) (.int .i8 v)=dU (l.set k (l[k].1,v))
 |p::r,0,h,v=>rfl
 |p::r,k+1,h,v=>by
  rw [dU,show (k+1)*2+1=(k*2+1)+1+1 by omega,List.set_cons_succ,List.set_cons_succ,List.set_cons_succ,dU,zQ r k (by simpa using h) v]
  rfl
theorem kV (es:List (Int×D)) (a:Int) (v:D):dR (fq es a v) a=some v:=by rw [pG,if_pos rfl]
theorem iQ (es:List (List D×D)) (a b:Int) (v:D):hB (gw es [.int .i8 a,.int .i8 b] v) [.int .i8 a,.int .i8 b]=some v:=by
 have e:ae [D.int .i8 a,D.int .i8 b] [D.int .i8 a,D.int .i8 b]=true:=by simp [ae,ak]
 induction es with
 |nil=>simp only [gw,hB,e]
 |cons p r ih=>
  obtain ⟨x,d⟩:=p
  rw [gw]
  cases h:ae [D.int .i8 a,D.int .i8 b] x with
  |true=>simp only [hB,e]
  |false=>simp only [hB,h];exact ih
def wu (l:List Int) (a:Int):Option D:=if fS l a=0 then none else some (.int .i64 (fS l a:Int))
def j6:List Int→List (Int×D)
  | []=> []
  |b::l=>fq (j6 l) b (.int .i64 (fS (b::l) b:Int))
theorem ju:∀(l:List Int) (a:Int),dR (j6 l) a=wu l a
 | [],a=>rfl
 |b::l,a=>by
  rw [j6,pG]
  by_cases h:a=b
  ·subst h
   have:¬fS (a::l) a=0:=by rw [fS,if_pos rfl];omega
   rw [if_pos rfl,wu,if_neg this]
  ·have hb:¬b=a:=fun e=>h e.symm
   rw [if_neg h,ju l a,wu,wu,fS,if_neg hb,VT]
theorem iT {l:List D} {i n:Nat} {l':List D} (h:hH l i n l'):hH l i n l':=h
theorem qW {n:Nat} :Nat.beq n n=true:=by rw [VJ]
theorem eQ {l m:List D} (h:∀c∈l,c.clean=true) (hm:∀c∈m,c.clean=true):∀c∈l++m,c.clean=true:=by
 intro c hc
 rcases List.mem_append.1 hc with q|q
 ·exact h c q
 ·exact hm c q
theorem Ep {l:List D} {r:Nat} (h:l.length=r*2):Nat.beq l.length (r*2)=true:=by
 rw [VJ];exact h
def wN (seen:List Int):List Mv→Bool
  | []=>true
  |p::r=> !(seen.contains p.1)&&(l9 p.1&&(l9 p.2&&wN (p.1::seen) r))
def kq:List Int→List (Int×D)
  | []=> []
  |b::s=>fq (kq s) b (.int .i64 1)
theorem jF:∀(s:List Int) (a:Int),dR (kq s) a=if s.contains a=true then some (.int .i64 1) else none
 | [],a=>rfl
 |b::s,a=>by
  rw [kq,pG,jF s a]
  by_cases h:a=b
  ·subst h;simp
  ·have:(a==b)=false:=by simpa using h
   simp [List.contains_cons,this,h]
def ofM (sc:Int) (l:List Mv):Bool:=l.all fun p=> !(p.1==sc)&& !(p.2==sc)
def lB (l:List Mv) (sc:Int):Bool:=ofM sc l&&(l9 sc&&wN [] l)
theorem Dt:∀(l:List Mv) (seen:List Int),wN seen l=true→(l.map Prod.fst).Nodup∧(∀p∈l,p.1∉seen)∧∀p∈l,l9 p.1=true∧l9 p.2=true
 | [],seen,_=>⟨by simp,fun p h=>by simp at h,fun p h=>by simp at h⟩
 |p::r,seen,h=>by
  simp only [wN,Vi,Vm,List.contains_eq_mem,decide_eq_false_iff_not] at h
  obtain ⟨h1,h2,h3,h4⟩:=h
  obtain ⟨i1,i2,i3⟩:=Dt r (p.1::seen) h4
  refine ⟨?_,?_,?_⟩
  ·rw [WG,List.nodup_cons]
   refine ⟨fun hm=> ?_,i1⟩
   obtain ⟨q,hq,e⟩:=List.mem_map.1 hm
   exact i2 q hq (by rw [e];simp)
  ·intro q hq
   rcases V6.1 hq with rfl|hq
   ·exact h1
   ·exact fun e=>i2 q hq (by simp [e])
  ·intro q hq
   rcases V6.1 hq with rfl|hq
   ·exact ⟨h2,h3⟩
   ·exact i3 q hq
def cS (l:List Mv):List Mv:=l.filter fun p=> !(p.1==p.2)
theorem DL {l:List Mv} {sc:Int} (h:lB l sc=true):qM sc (cS l):=by
 simp only [lB,Vi,ofM,VP,Vm,beq_eq_false_iff_ne] at h
 obtain ⟨h1,h2,h3⟩:=h
 obtain ⟨n1,_,_⟩:=Dt l [] h3
 have hs:((cS l).map Prod.fst).Sublist (l.map Prod.fst):=(List.filter_sublist).map _
 refine ⟨hs.nodup n1,fun hm=> ?_,fun p hp=> ?_⟩
 ·obtain ⟨p,hp,e⟩:=List.mem_map.1 (hs.subset hm)
  exact (h1 p hp).1 e
 ·have:=(List.mem_filter.1 hp).2
  simpa using this
def Mi (x:XS):D:=xD x.op x.w x.dst x.src x.base x.aa x.ai x.cc
def wQ:Nat→Int
  |0=>7
  |1=>6
  |2=>2
  |3=>10
  |_=>8
abbrev zg:List D:= [.int .i8 7,.int .i8 6,.int .i8 2,.int .i8 10,.int .i8 8]
theorem su {k:Nat} (h:k<5):zg[0+Int.toNat (k:Int)*1]? =some (.int .i8 (wQ k)):=by
 have:k=0∨k=1∨k=2∨k=3∨k=4:=by omega
 rcases this with rfl|rfl|rfl|rfl|rfl<;>rfl
def j3 (p:af):Nat→Nat→List Mv
  |0,_=> []
  |m+1,k=>if (p.k ((k+1:Nat):Int)==1)=true then (wQ k,p.n ((k+1:Nat):Int))::j3 p m (k+1) else j3 p m (k+1)
def DR (to k n:Int):XS:=if (k==2)=true then ⟨26,64,to,0,4,8*n,0,0⟩ else ⟨1,32,to,0,0,0,0,0⟩
def vJ (p:af):Nat→Nat→List XS
  |0,_=> []
  |m+1,k=>if (p.k ((k+1:Nat):Int)==1)=true then vJ p m (k+1) else DR (wQ k) (p.k ((k+1:Nat):Int)) (p.n ((k+1:Nat):Int))::vJ p m (k+1)
def sU (q:Mv):XS:=⟨0,64,q.1,q.2,0,0,0,0⟩
def dN (num:Int):Nat:=num.toNat%6
def HM (p:af) (n:Nat):List Mv:=iH 11 (2*(j3 p n 0).length) (cS (j3 p n 0))
def GX (p:af) (num:Int):List XS:=(HM p (dN num)).map sU++(vJ p (dN num) 0++ [⟨1,32,0,0,0,0,num,0⟩,⟨31,0,0,0,0,0,0,0⟩])
theorem s9 (p:af):∀m k,(j3 p m k).length≤m
 |0,_=>Vq _
 |m+1,k=>by
  have:=s9 p m (k+1)
  rw [j3]
  split
  ·rw [Vf];omega
  ·omega
theorem sZ (p:af):∀m k,(vJ p m k).length≤m
 |0,_=>Vq _
 |m+1,k=>by
  have:=sZ p m (k+1)
  rw [vJ]
  split
  ·omega
  ·rw [Vf];omega
theorem G6 {j k:Nat} (h:j<5) (h2:k<j):wQ j≠wQ k:=by
 have:j=1∨j=2∨j=3∨j=4:=by omega
 have:k=0∨k=1∨k=2∨k=3:=by omega
 rcases ‹j=1∨_› with rfl|rfl|rfl|rfl<;>rcases ‹k=0∨_› with rfl|rfl|rfl|rfl<;>first|omega|decide
theorem Cv (k:Nat):2≤wQ k∧wQ k≤10:=by
 match k with
 |0=>decide
 |1=>decide
 |2=>decide
 |3=>decide
 |_+4=>exact ⟨by show (2:Int)≤8;decide,by show (8:Int)≤10;decide⟩
theorem CO {n:Int} (h0:0≤n) (h1:n<16):l9 n=true:=by simp [l9,h0,h1]
theorem DX {p:af} (hp:p.may=true):∀(m k:Nat) (seen:List Int),k+m≤5→(∀j,k≤j→j<5→wQ j∉seen)→wN seen (j3 p m k)=true
 |0,_,_,_,_=>rfl
 |m+1,k,seen,hk,hs=>by
  rw [j3]
  split
  ·rename_i h1
   have ho:=dS (af.fg hp (i:=((k+1:Nat):Int)) (by omega) (by omega))
   have h1':p.k ((k+1:Nat):Int)=1:=by simpa using h1
   have ht:=Cv k
   rw [wN,CO (by omega) (by omega),CO (by omega) (by omega),DX hp m (k+1) (wQ k::seen) (by omega) (fun j h2 h3=>by
    rw [V6]
    rintro (e|e)
    ·exact G6 h3 (by omega) e
    ·exact hs j (by omega) h3 e)]
   have:=hs k (Vq _) (by omega)
   simpa using this
  ·exact DX hp m (k+1) seen (by omega) (fun j h2 h3=>hs j (by omega) h3)
theorem DW {p:af} (hp:p.may=true):∀(m k:Nat),k+m≤5→ofM 11 (j3 p m k)=true
 |0,_,_=>rfl
 |m+1,k,hk=>by
  rw [j3]
  split
  ·rename_i h1
   have ho:=dS (af.fg hp (i:=((k+1:Nat):Int)) (by omega) (by omega))
   have h1':p.k ((k+1:Nat):Int)=1:=by simpa using h1
   have ht:=Cv k
   have ih:=DW hp m (k+1) (by omega)
   unfold ofM at ih ⊢
   rw [List.all_cons,ih]
   simp only [Bool.and_true,Vi,Vm,beq_eq_false_iff_ne]
   omega
  ·exact DW hp m (k+1) (by omega)
theorem HN {p:af} (hp:p.may=true) {n:Nat} (h:n≤5):lB (j3 p n 0) 11=true:=by
 unfold lB
 rw [DW hp n 0 (by omega),DX hp n 0 [] (by omega) (fun _ _ _=>by simp)]
 rfl
end Go.Ev
namespace Go.Proofs.YtkpneibifdoecaaGreat
open Go Go.Ev
end Go.Proofs.YtkpneibifdoecaaGreat
namespace Go.Ev
open Go
def HY (a:Int) (i:Nat):List Mv→Nat→Bool
  | [],_=>true
  |p::r,k=>(decide (k=i)|| !(p.2==a))&&HY a i r (k+1)
def Lf (all:List Mv):List Mv→Nat→Option Nat
  | [],_=>none
  |p::r,i=>if HY p.1 i all 0=true then some i else Lf all r (i+1)
end Go.Ev
namespace Go.Proofs.YtkpneibifdoecaaGreat
open Go Go.Ev
theorem LD {k:Nat} (h:k≤1000):IntKind.i64.wrap ((k:Int)+1)=((k+1:Nat):Int):=by rw [aH];omega
abbrev NK (l:List Mv) (sc:Int) (k:Nat):List D:= [.aj .no 2 (eN l),.int .i8 sc,.undef,.undef,.undef,.int .i64 (k:Int),.undef,.undef,.undef,.undef,.undef,.undef,.undef,.undef,.undef,.undef,.undef,.undef,.undef,.undef,.undef,.undef,.undef,.undef,.undef,.undef,.undef,.undef,.undef,.undef,.undef,.undef,.undef,.undef,.undef,.undef]
abbrev NM:List D:= [.undef,.undef,.undef,.undef,.undef,.undef,.undef,.undef,.undef,.undef,.undef,.undef,.undef,.undef,.undef,.undef,.undef,.undef,.undef,.undef,.undef,.undef,.undef,.undef,.undef,.undef,.undef,.undef,.undef,.undef,.undef,.undef,.undef,.undef,.undef,.undef]
abbrev NL:List D:= [.undef,.undef,.undef,.undef,.bool false,.undef,.undef,.undef,.undef,.undef,.undef,.undef,.undef,.undef,.undef,.undef,.undef,.undef,.undef,.undef,.undef,.undef,.undef,.undef,.undef,.undef,.undef,.undef,.undef,.undef,.undef,.undef,.undef,.undef,.undef,.undef]
abbrev NW (l:List Mv) (i k:Nat):List D:= [.aj .no 2 (eN l),.undef,.undef,.int .i64 (i:Int),.int .i64 (k:Int),.undef,.undef,.undef,.undef,.undef,.undef,.undef,.undef,.undef,.undef,.undef,.undef,.undef,.undef,.undef,.undef,.undef,.undef,.undef,.undef,.undef,.undef,.undef,.undef,.undef,.undef,.undef,.undef,.undef,.undef,.undef,.undef,.undef,.undef,.undef,.undef,.undef,.undef]
abbrev NY (l:List Mv) (i:Nat):List D:= [.aj .no 2 (eN l),.undef,.undef,.int .i64 (i:Int),.undef,.undef,.undef,.undef,.undef,.undef,.undef,.undef,.undef,.undef,.undef,.undef,.undef,.undef,.undef,.undef,.undef,.undef,.undef,.undef,.undef,.undef,.undef,.undef,.undef,.undef,.undef,.undef,.undef,.undef,.undef,.undef,.undef,.undef,.undef,.undef,.undef,.undef,.undef]
abbrev NX:List D:= [.undef,.undef,.bool false,.undef,.undef,.undef,.undef,.undef,.undef,.undef,.undef,.undef,.undef,.undef,.undef,.undef,.undef,.undef,.undef,.undef,.undef,.undef,.undef,.undef,.undef,.undef,.undef,.undef,.undef,.undef,.undef,.undef,.undef,.undef,.undef,.undef,.undef,.undef,.undef,.undef,.undef,.undef,.undef]
abbrev N2 (n i:Nat) (q:Bool) (k:Nat):List D:= [.bR 0 2 n,.undef,.undef,.int .i64 (i:Int),.bool q,.int .i64 (k:Int),.undef,.undef,.undef,.undef,.undef,.undef,.undef,.undef,.undef,.undef,.undef,.undef,.undef,.undef,.undef,.undef,.undef,.undef,.undef,.undef,.undef,.undef,.undef,.undef,.undef,.undef,.undef,.undef,.undef,.undef,.undef,.undef,.undef]
abbrev N3 (n i:Nat) (q:Bool):List D:= [.bR 0 2 n,.undef,.undef,.int .i64 (i:Int),.bool q,.undef,.undef,.undef,.undef,.undef,.undef,.undef,.undef,.undef,.undef,.undef,.undef,.undef,.undef,.undef,.undef,.undef,.undef,.undef,.undef,.undef,.undef,.undef,.undef,.undef,.undef,.undef,.undef,.undef,.undef,.undef,.undef,.undef,.undef]
def Ou (l:List Mv) (i:Nat):Prop:= ∀(j:Nat) (h:j<l.length) (hi:i<l.length),j<i→(l[j].1==l[i].1)=false
def OB (l:List Mv) (i:Nat):Prop:= ∃(j:Nat) (h:j<l.length) (hi:i<l.length),j<i∧(l[j].1==l[i].1)=true
abbrev MN (l:List Mv) (i:Nat):List D:= [.aj .no 2 (eN l),.undef,.undef,.int .i64 (i:Int),.int .i64 0,.undef,.undef,.undef,.undef,.undef,.undef,.undef,.undef,.undef,.undef,.undef,.undef,.undef,.undef,.undef,.undef,.undef,.undef,.undef,.undef,.undef,.undef,.undef,.undef,.undef,.undef,.undef,.undef,.undef,.undef,.undef,.undef,.undef,.undef,.undef,.undef,.undef,.undef]
abbrev MI (l:List Mv) (sc:Int):List D:= [.aj .no 2 (eN l),.int .i8 sc,.undef,.undef,.undef,.int .i64 0,.undef,.undef,.undef,.undef,.undef,.undef,.undef,.undef,.undef,.undef,.undef,.undef,.undef,.undef,.undef,.undef,.undef,.undef,.undef,.undef,.undef,.undef,.undef,.undef,.undef,.undef,.undef,.undef,.undef,.undef]
def Oz (l:List Mv) (i:Nat):Bool:=HY (l.getD i (0,0)).1 i l 0
abbrev MQ (n i:Nat):List D:= [.bR 0 2 n,.undef,.undef,.int .i64 (i:Int),.bool true,.int .i64 0,.undef,.undef,.undef,.undef,.undef,.undef,.undef,.undef,.undef,.undef,.undef,.undef,.undef,.undef,.undef,.undef,.undef,.undef,.undef,.undef,.undef,.undef,.undef,.undef,.undef,.undef,.undef,.undef,.undef,.undef,.undef,.undef,.undef]
def Oy (l:List Mv) (i:Nat):List Int:=((l.take i).map Prod.fst).reverse
abbrev NR (l:List Mv) (i:Nat):List D:= [.aj .no 2 (eN l),.undef,.undef,.int .i64 (i:Int),.undef,.undef,.undef,.undef,.undef,.undef,.undef,.undef,.undef,.undef,.undef,.undef,.undef,.undef,.undef,.undef,.undef,.undef,.undef,.undef,.undef,.undef,.undef,.undef,.undef,.undef,.undef,.undef,.undef,.undef,.undef,.undef,.undef,.undef,.undef,.undef,.undef,.undef,.undef]
abbrev NS:List D:= [.undef,.undef,.undef,.undef,.undef,.undef,.undef,.undef,.undef,.undef,.undef,.undef,.undef,.undef,.undef,.undef,.undef,.undef,.undef,.undef,.undef,.undef,.undef,.undef,.undef,.undef,.undef,.undef,.undef,.undef,.undef,.undef,.undef,.undef,.undef,.undef,.undef,.undef,.undef,.undef,.undef,.undef,.undef]
abbrev MK (l:List Mv):List D:= [.aj .no 2 (eN l),.undef,.undef,.int .i64 0,.undef,.undef,.undef,.undef,.undef,.undef,.undef,.undef,.undef,.undef,.undef,.undef,.undef,.undef,.undef,.undef,.undef,.undef,.undef,.undef,.undef,.undef,.undef,.undef,.undef,.undef,.undef,.undef,.undef,.undef,.undef,.undef,.undef,.undef,.undef,.undef,.undef,.undef,.undef]
abbrev NZ (n i:Nat):List D:= [.bR 0 2 n,.undef,.undef,.int .i64 (i:Int),.undef,.undef,.undef,.undef,.undef,.undef,.undef,.undef,.undef,.undef,.undef,.undef,.undef,.undef,.undef,.undef,.undef,.undef,.undef,.undef,.undef,.undef,.undef,.undef,.undef,.undef,.undef,.undef,.undef,.undef,.undef,.undef,.undef,.undef,.undef]
abbrev N1:List D:= [.undef,.undef,.undef,.undef,.undef,.undef,.undef,.undef,.undef,.undef,.undef,.undef,.undef,.undef,.undef,.undef,.undef,.undef,.undef,.undef,.undef,.undef,.undef,.undef,.undef,.undef,.undef,.undef,.undef,.undef,.undef,.undef,.undef,.undef,.undef,.undef,.undef,.undef,.undef]
abbrev N0 (j:Nat):List D:= [.undef,.undef,.int .i64 (j:Int),.undef,.undef,.undef,.undef,.undef,.undef,.undef,.undef,.undef,.undef,.undef,.undef,.undef,.undef,.undef,.undef,.undef,.undef,.undef,.undef,.undef,.undef,.undef,.undef,.undef,.undef,.undef,.undef,.undef,.undef,.undef,.undef,.undef,.undef,.undef,.undef]
abbrev MO (n:Nat):List D:= [.bR 0 2 n,.undef,.undef,.int .i64 0,.undef,.undef,.undef,.undef,.undef,.undef,.undef,.undef,.undef,.undef,.undef,.undef,.undef,.undef,.undef,.undef,.undef,.undef,.undef,.undef,.undef,.undef,.undef,.undef,.undef,.undef,.undef,.undef,.undef,.undef,.undef,.undef,.undef,.undef,.undef]
end Go.Proofs.YtkpneibifdoecaaGreat
namespace Go.Ev
open Go Go.RowKit
def j9.rn (f:Nat→Nat):j9→j9
  | .tok t v=> .tok (f t) v
  |o=>o
mutual
def D.rn (f:Nat→Nat):D→D
  | .ptr q id off=> .ptr q (f id) off
  | .bp id=> .bp (f id)
  | .jx id=> .jx (f id)
  | .bR id sz n=> .bR (f id) sz n
  | .sub id off sz n c=> .sub (f id) off sz n c
  | .aj o sz xs=> .aj (o.rn f) sz xs
  | .agg cs=> .agg (D.xb f cs)
  | .aM cs=> .aM (D.xb f cs)
  | .fn g a b=> .fn g (D.xb f a) (D.xb f b)
  |d=>d
def D.xb (f:Nat→Nat):List D→List D
  | []=> []
  |d::r=>d.rn f::D.xb f r
end
theorem D.gl (f:Nat→Nat) (l:List D):D.xb f l=l.map (D.rn f):=by
 induction l with
 |nil=>simp [D.xb]
 |cons d r ih=>simp [D.xb,ih]
def Ob.rn (f:Nat→Nat):Ob→Ob
  | .box cs=> .box (D.xb f cs)
  | .lp k t ps ag bd=> .lp k (D.xb f t) ps ag bd
  |o=>o
def MM.pull (M:MM) (f:Nat→Nat):MM:=⟨M.cell,fun i=>M.box (f i),fun i v=>M.bl (f i) v,M.dW⟩
theorem bo.push {M:MM} {d:D} {v:Value} (h:bo M d v) (f:Nat→Nat):∀ {M':MM},(∀b o v,M.cell b o=some v→M'.cell b o=some v)→(∀id b,M.box id=some b→M'.box (f id)=some b)→(∀t v x,M.bl t v=some x→M'.bl (f t) v=some x)→bo M' (d.rn f) v:=by
 induction h with
 |undef v=>intro _ _ _ _;rw [D.rn];exact .undef v;all_goals (intros;contradiction)
 |int k n=>intro _ _ _ _;exact .int k n
 |bool b=>intro _ _ _ _;exact .bool b
 |str s=>intro _ _ _ _;exact .str s
 |fL=>intro _ _ _ _;exact .fL
 |ptr q h=>intro _ _ hb _;exact .ptr q (hb _ _ h)
 |cT q vs hx hc hr ih=>
  intro _ c _ _
  exact .cT q vs hx (fun j x h=>c _ _ _ (hc j x h)) (fun j x h=>(hr j x h).mono ⟨c,fun _ _ y=>y,fun _ _ _ y=>y,fun _ y=>y⟩)
 |bp h=>intro _ _ hb _;exact .bp (hb _ _ h)
 |jx h=>intro _ _ hb _;exact .jx (hb _ _ h)
 |bR h hh hc=>intro _ _ hb hs;exact .bR (hb _ _ h) (hs _ _ _ hh) hc
 |sub h hc hp ho=>intro _ _ hb _;exact .sub (hb _ _ h) hc hp ho
 |aj b off vs hl OL ha OT hc hr OQ ho ih=>
  rename_i o _ _ _ _ _
  intro _ c _ hs
  refine .aj b off vs hl OL ha OT (fun i x cs j y h1 h2 h3=>c _ _ _ (hc i x cs j y h1 h2 h3)) (fun i x cs j y h1 h2 h3=>(hr i x cs j y h1 h2 h3).mono ⟨c,fun _ _ y=>y,fun _ _ _ y=>y,fun _ y=>y⟩) OQ ?_
  cases o with
  |tok t v=>exact hs _ _ _ ho
  |_=>exact ho
 |av=>intro _ _ _ _;exact .av
 |fn h1 h2 r1 r2 i1 i2=>
  intro _ c hb hs
  rw [D.rn,D.gl,D.gl]
  refine .fn (by simpa using h1) (by simpa using h2) ?_ ?_
  ·intro i d v a b
   rw [VC,Vz] at a
   obtain ⟨d0,h0,rfl⟩:=a
   exact i1 i d0 v h0 b c hb hs
  ·intro i d v a b
   rw [VC,Vz] at a
   obtain ⟨d0,h0,rfl⟩:=a
   exact i2 i d0 v h0 b c hb hs
 |agg h r ih=>
  intro _ c hb hs
  rw [D.rn,D.gl]
  refine .agg (by simpa using h) ?_
  intro i d v a b
  rw [VC,Vz] at a
  obtain ⟨d0,h0,rfl⟩:=a
  exact ih i d0 v h0 b c hb hs
 |aM h r ih=>
  intro _ c hb hs
  rw [D.rn,D.gl]
  refine .aM (by simpa using h) ?_
  intro i d v a b
  rw [VC,Vz] at a
  obtain ⟨d0,h0,rfl⟩:=a
  exact ih i d0 v h0 b c hb hs
mutual
theorem bo.pull (M:MM) (f:Nat→Nat):∀(d:D) (v:Value),bo M (d.rn f) v→bo (M.pull f) d v
  | .undef,v,_=> .undef v
  | .int k n,_,h=>by cases h;exact .int k n
  | .bool b,_,h=>by cases h;exact .bool b
  | .str s,_,h=>by cases h;exact .str s
  | .fL,_,h=>by cases h;exact .fL
  | .av,_,h=>by cases h;exact .av
  | .ptr q id off,_,h=>by cases h with|ptr _ h=>exact .ptr q h
  | .cT q x off,_,h=>by cases h with|cT _ vs hx hc hr=>exact .cT q vs hx hc hr
  | .bp id,_,h=>by cases h with|bp h=>exact .bp h
  | .jx id,_,h=>by cases h with|jx h=>exact .jx h
  | .bR id sz n,_,h=>by cases h with|bR h hh hc=>exact .bR h hh hc
  | .sub id off sz n c,_,h=>by cases h with|sub h hc hp ho=>exact .sub h hc hp ho
  | .aj o sz xs,_,h=>by
    cases h with
    |aj b off vs hl OL ha OT hc hr OQ ho=>
      refine .aj b off vs hl OL ha OT hc hr OQ ?_
      cases o with
      |tok t v=>exact ho
      |_=>exact ho
  | .fn g a b,_,h=>by
    rw [D.rn,D.gl,D.gl] at h
    cases h with
    |fn h1 h2 r1 r2=>
      exact .fn (by simpa using h1) (by simpa using h2) (fun i d v x y=>bo.vn M f a i d v x (r1 i (d.rn f) v (by rw [VC,x];rfl) y)) (fun i d v x y=>bo.vn M f b i d v x (r2 i (d.rn f) v (by rw [VC,x];rfl) y))
  | .agg cs,_,h=>by
    rw [D.rn,D.gl] at h
    cases h with
    |agg h1 r=>exact .agg (by simpa using h1) (fun i d v x y=>bo.vn M f cs i d v x (r i (d.rn f) v (by rw [VC,x];rfl) y))
  | .aM cs,_,h=>by
    rw [D.rn,D.gl] at h
    cases h with
    |aM h1 r=>exact .aM (by simpa using h1) (fun i d v x y=>bo.vn M f cs i d v x (r i (d.rn f) v (by rw [VC,x];rfl) y))
theorem bo.vn (M:MM) (f:Nat→Nat):∀(l:List D) (i:Nat) (d:D) (v:Value),l[i]? =some d→bo M (d.rn f) v→bo (M.pull f) d v
  | [],i,d,v,h,_=>by simp at h
  |x::r,0,d,v,h,k=>by
    simp at h
    subst h
    exact bo.pull M f x v k
  |x::r,i+1,d,v,h,k=>bo.vn M f r i d v (by simpa using h) k
end
theorem bT.pull {M:MM} {f:Nat→Nat} {l:List D} {vs:Array Value} (h:bT M (D.xb f l) vs):bT (M.pull f) l vs:=by
 rw [D.gl] at h
 exact ⟨by simpa using h.1,fun i d v a b=>bo.pull M f d v (h.2 i (d.rn f) v (by rw [VC,a];rfl) b)⟩
theorem bT.push {M M':MM} {f:Nat→Nat} {l:List D} {vs:Array Value} (h:bT M l vs) (c:∀b o v,M.cell b o=some v→M'.cell b o=some v) (hb:∀id b,M.box id=some b→M'.box (f id)=some b) (hs:∀t v x,M.bl t v=some x→M'.bl (f t) v=some x):bT M' (D.xb f l) vs:=by
 rw [D.gl]
 refine ⟨by simpa using h.1,fun i d v a b=> ?_⟩
 rw [VC,Vz] at a
 obtain ⟨d0,h0,rfl⟩:=a
 exact (h.2 i d0 v h0 b).push f c hb hs
def j7 (tb:List Nat) (n i:Nat):Nat:=if i<tb.length then tb.getD i 0 else n+(i - tb.length)
def mQ (tb:List Nat) (n j:Nat):Option Nat:=if j<n then tb.idxOf? j else some (tb.length+(j - n))
def EE (tb:List Nat) (n:Nat) (s:List Ob):List Ob→Nat→List Ob
  | [],_=> []
  |x::t,j=>(match tb.idxOf? j with|some i=>(s.getD i .dead).rn (j7 tb n)|none=>x)::EE tb n s t (j+1)
def GH (tb:List Nat) (t s:List Ob):List Ob:=EE tb t.length s t 0++(s.drop tb.length).map (Ob.rn (j7 tb t.length))
theorem sF (tb:List Nat) (n:Nat) (s:List Ob):∀t j,(EE tb n s t j).length=t.length
 | [],_=>rfl
 |_::t,j=>by rw [EE,Vf,sF tb n s t (j+1),Vf]
theorem zs (tb:List Nat) (n:Nat) (s:List Ob):∀t j i,i<t.length→(EE tb n s t j)[i]? =some (match tb.idxOf? (j+i) with|some i=>(s.getD i .dead).rn (j7 tb n)|none=>t.getD i .dead)
 | [],_,_,h=>by simp at h
 |x::t,j,0,_=>by rw [EE];rfl
 |x::t,j,i+1,h=>by
  rw [EE,V8,zs tb n s t (j+1) i (by simpa using h),show j+1+i=j+(i+1) by omega]
  rfl
theorem sE (tb:List Nat) (t s:List Ob):(GH tb t s).length=t.length+(s.length - tb.length):=by
 rw [GH,List.length_append,sF,Vl,List.length_drop]
theorem CM (tb:List Nat) (t s:List Ob) (j:Nat):bq (GH tb t s) j=match mQ tb t.length j with|some i=>(bq s i).rn (j7 tb t.length)|none=>bq t j:=by
 unfold bq GH mQ
 rw [Vr,List.getElem?_append,sF]
 by_cases h:j<t.length
 ·rw [if_pos h,if_pos h,zs tb _ s t 0 j h,VT]
  rfl
 ·rw [if_neg h,if_neg h,VC,List.getElem?_drop]
  simp only [Vr]
  cases s[tb.length+(j - t.length)]? <;>rfl
theorem Hb (tb:List Nat) (n:Nat) (hd:tb.Nodup) (hb:∀x∈tb,x<n) (i:Nat):mQ tb n (j7 tb n i)=some i:=by
 unfold mQ j7
 by_cases h:i<tb.length
 ·rw [if_pos h,Vr,V3 h]
  simp only [Option.getD_some]
  rw [if_pos (hb _ (List.getElem_mem h)),List.idxOf?_eq_some_iff]
  refine ⟨h,rfl,fun j hj e=> ?_⟩
  have hp:=List.pairwise_iff_getElem.mp hd j i (by omega) h hj
  exact hp e
 ·rw [if_neg h,if_neg (by omega)]
  congr 1
  omega
theorem Fb (tb:List Nat) (n:Nat) (j i:Nat) (h:mQ tb n j=some i):j7 tb n i=j:=by
 unfold mQ at h
 unfold j7
 split at h
 ·rw [List.idxOf?_eq_some_iff] at h
  obtain ⟨h1,h2,_⟩:=h
  rw [if_pos h1,Vr,V3 h1]
  exact h2
 ·simp only [Vs] at h
  subst h
  rw [if_neg (by omega)]
  omega
theorem Ob.Hd {f:Nat→Nat} {o:Ob} {cs:List D} (h:o.rn f= .box cs):∃c,o= .box c∧cs=D.xb f c:=by
 cases o<;>simp [Ob.rn] at h
 exact ⟨_,rfl,h.symm⟩
theorem Ob.Hc {f:Nat→Nat} {o:Ob} {v z:Nat} (h:o.rn f= .bz v z):o= .bz v z:=by
 cases o<;>simp [Ob.rn] at h
 obtain ⟨rfl,rfl⟩:=h
 rfl
theorem Ob.zr {f:Nat→Nat} {o:Ob} :(o.rn f).Bb=o.Bb:=by cases o<;>rfl
theorem Ob.IC {f:Nat→Nat} {o:Ob} {k:Lk} {t:List D} {ps:Array Nat} {ag bd:Code} (h:o.rn f= .lp k t ps ag bd):∃t0,o= .lp k t0 ps ag bd∧t=D.xb f t0:=by
 cases o<;>simp [Ob.rn] at h
 obtain ⟨rfl,rfl,rfl,rfl,rfl⟩:=h
 exact ⟨_,rfl,rfl⟩
theorem cO.rn {P:Program} {g:FuncId} {args:List D} {s:List Ob} {d:D} {s':List Ob} (h:cO P g args s d s') (tb:List Nat) (t:List Ob) (hl:s.length=tb.length) (hd:tb.Nodup) (hb:∀x∈tb,x<t.length) (ht:GH tb t s=t):
  cO P g (D.xb (j7 tb t.length) args) t (d.rn (j7 tb t.length)) (GH tb t s'):=by
 have kf:=Hb tb t.length hd hb
 have fk:=Fb tb t.length
 have T9:=CM tb t s'
 have Tz:∀i,bq t (j7 tb t.length i)=(bq s i).rn (j7 tb t.length):=fun i=>by
  have:=CM tb t s (j7 tb t.length i)
  rw [ht,kf] at this
  exact this
 have UZ:∀i,tb.length≤i→j7 tb t.length i=t.length+(i - tb.length):=fun i hi=>by rw [j7,if_neg (by omega)]
 have hlen:=h.len
 refine ⟨h.Cr,by rw [sE];omega,fun w0 M own w vs hw hu hr=> ?_⟩
 let X1:Nat→Prop:=fun b=>w0.X b∨∃j,own b=some j∧mQ tb t.length j=none∧¬M.dW b
 let w1:dm:=⟨w,M.cell,X1⟩
 have hX:∀b,X1 b→b<w.heap.size:=by
  rintro b (q|⟨j,q,_⟩)
  ·exact hw.below.Jq q
  ·exact hw.owned b j q
 have bs:∀b i,¬w0.X b→own b=some (j7 tb t.length i)→¬X1 b:=by
  rintro b i q e (k|⟨j,k1,k2,_⟩)
  ·exact q k
  ·rw [e,Vs] at k1
   rw [← k1,kf] at k2
   cases k2
 have R2:bu w1 (M.pull (j7 tb t.length)) (fun b=>(own b).bind (mQ tb t.length)) (bq s) w:=by
  have ow:∀b i,own b=some (j7 tb t.length i)→(own b).bind (mQ tb t.length)=some i:=fun b i e=>by rw [e];exact kf i
  refine ⟨⟨rfl,rfl,rfl,Vq _,fun _ _=>rfl,hX⟩,hw.cells,fun b o v q _=>q,?_,?_,?_,?_,?_,fun b q=>⟨?_,(hw.dW b q).2⟩⟩
  ·intro b id e
   rw [Option.bind_eq_some_iff] at e
   obtain ⟨j,e1,_⟩:=e
   exact hw.owned b j e1
  ·intro id cs e
   obtain ⟨b,vs,ty,q⟩:=hw.box (j7 tb t.length id) _ (by rw [Tz,e];rfl)
   refine ⟨b,vs,ty,q.box,bs _ _ q.base q.own,ow _ _ q.own,q.none,q.cq,by simpa [D.gl] using q.len,fun i d v a c=>bo.pull M _ d v (q.rep i _ v (by rw [D.gl,VC,a];rfl) c),fun sz a len cap c=>q.room sz a len cap c⟩
  ·intro id ver sz e
   obtain ⟨a,len,cap,q⟩:=hw.bz (j7 tb t.length id) ver sz (by rw [Tz,e];rfl)
   refine ⟨a,len,cap,q.bl,q.last,q.room.imp (fun x=>x) fun ⟨b,vs,ty,fz,ha,r⟩=>⟨b,vs,ty,fz,ha,bs _ _ r.base r.own,ow _ _ r.own,r.cq,r.fz,r.cap,r.none⟩⟩
  ·intro id F e
   obtain ⟨b,OI,clock,q⟩:=hw.mp (j7 tb t.length id) F (by rw [Tz,Ob.zr,e])
   exact ⟨b,OI,clock,q.box,bs _ _ q.base q.own,ow _ _ q.own,q.none,q.cq,q.fits⟩
  ·intro id k tt ps ag bd e
   obtain ⟨l,r,q⟩:=hw.lp (j7 tb t.length id) k _ ps ag bd (by rw [Tz,e];rfl)
   exact ⟨l,r,q.box,bs _ _ q.base q.own,ow _ _ q.own,q.cq,q.st,q.pd,q.tm.pull,q.ps,q.ag,q.bd⟩
  ·rintro (k|⟨j,_,_,k⟩)
   ·exact (hw.dW b q).1 k
   ·exact k q
 have UH:(M.pull (j7 tb t.length)).upto s.length:=by
  constructor
  ·intro id hi
   exact hu.1 _ (by rw [UZ id (by omega)];omega)
  ·intro id v hi
   exact hu.2 _ v (by rw [UZ id (by omega)];omega)
 refine Calls.mono (h.run w1 _ _ w vs R2 UH hr.pull) ?_
 rintro e w' ⟨v,M',OH,rfl,q1,q2,q3,q4⟩
 let M2:MM:=⟨M'.cell,fun j=>match mQ tb t.length j with|some i=>M'.box i|none=>M.box j,fun j v=>match mQ tb t.length j with|some i=>M'.bl i v|none=>M.bl j v,M'.dW⟩
 have e1:∀i,M2.box (j7 tb t.length i)=M'.box i:=fun i=>by show (match mQ tb t.length (j7 tb t.length i) with|some i=>M'.box i|none=>_)=_;rw [kf]
 have e2:∀i v,M2.bl (j7 tb t.length i) v=M'.bl i v:=fun i v=>by show (match mQ tb t.length (j7 tb t.length i) with|some i=>M'.bl i v|none=>_)=_;rw [kf]
 have c1:∀b o v,M'.cell b o=some v→M2.cell b o=some v:=fun _ _ _ x=>x
 have b1:∀id b,M'.box id=some b→M2.box (j7 tb t.length id)=some b:=fun id b x=>by rw [e1];exact x
 have s1:∀t' v x,M'.bl t' v=some x→M2.bl (j7 tb t.length t') v=some x:=fun t' v x y=>by rw [e2];exact y
 have le:M.Le M2:=by
  refine ⟨q3.cell,?_,?_,q3.dW⟩
  ·intro j b e
   show (match mQ tb t.length j with|some i=>M'.box i|none=>M.box j)=some b
   cases hk:mQ tb t.length j with
   |none=>exact e
   |some i=>exact q3.box i b (by show M.box (j7 tb t.length i)=some b;rw [fk j i hk];exact e)
  ·intro j v x e
   show (match mQ tb t.length j with|some i=>M'.bl i v|none=>M.bl j v)=some x
   cases hk:mQ tb t.length j with
   |none=>exact e
   |some i=>exact q3.bl i v x (by show M.bl (j7 tb t.length i) v=some x;rw [fk j i hk];exact e)
 have mk:∀b j o,own b=some j→mQ tb t.length j=none→w.heap[b]? =some o→(∀z,o≠ .deferred z)→X1 b:=fun b j o e k hb hn=> .inr ⟨j,e,k,fun hm=>by
  rw [(hw.dW b hm).2] at hb
  exact hn _ (Vk hb).symm⟩
 have Sw:∀b o,X1 b→w.heap[b]? =some o→w'.heap[b]? =some o:=fun b o x y=>by rw [q1.below.block b x];exact y
 have SW:∀b o,X1 b→M.cell b o=none→M2.cell b o=none:=by
  intro b o x y
  show M'.cell b o=none
  cases e:M'.cell b o with
  |none=>rfl
  |some v=>
   have:M.cell b o=some v:=q1.g7 b o v e x
   rw [y] at this
   cases this
 classical
 let P6:Nat→Option Nat:=fun b=>if X1 b then own b else (OH b).map (j7 tb t.length)
 have ow:∀b i,¬X1 b→OH b=some i→P6 b=some (j7 tb t.length i):=fun b i x e=>by show (if X1 b then _ else _)=_;rw [if_neg x,e];rfl
 have TP:∀b j,X1 b→own b=some j→P6 b=some j:=fun b j x e=>by show (if X1 b then _ else _)=_;rw [if_pos x];exact e
 have Ti:∀b,¬X1 b→¬w0.X b:=fun b x y=>x (.inl y)
 have inv:∀j o,bq (GH tb t s') j=o→(∃i,j7 tb t.length i=j∧(bq s' i).rn (j7 tb t.length)=o)∨(mQ tb t.length j=none∧bq t j=o):=by
  intro j o e
  rw [T9] at e
  cases hk:mQ tb t.length j with
  |none=>rw [hk] at e;exact .inr ⟨rfl,e⟩
  |some i=>rw [hk] at e;exact .inl ⟨i,fk j i hk,e⟩
 have n1:∀j,mQ tb t.length j=none→M2.box j=M.box j:=fun j k=>by show (match mQ tb t.length j with|some i=>M'.box i|none=>M.box j)=_;rw [k]
 have n2:∀j v,mQ tb t.length j=none→M2.bl j v=M.bl j v:=fun j v k=>by show (match mQ tb t.length j with|some i=>M'.bl i v|none=>M.bl j v)=_;rw [k]
 refine ⟨v,M2,P6,rfl,⟨?_,q1.cells,?_,?_,?_,?_,?_,?_,?_⟩,⟨?_,?_⟩,le,q4.push _ c1 b1 s1⟩
 ·exact ⟨q1.below.os.trans hw.below.os,q1.below.tape.trans hw.below.tape,q1.below.output.trans hw.below.output,Wo hw.below.size q1.below.size,fun k hk=>(q1.below.block k (.inl hk)).trans (hw.below.block k hk),hw.below.lt⟩
 ·intro b o v k hb
  exact hw.g7 b o v (q1.g7 b o v k (.inl hb)) hb
 ·intro b id e
  have e:(if X1 b then own b else (OH b).map (j7 tb t.length))=some id:=e
  split at e
  ·rename_i hx
   exact Nat.lt_of_lt_of_le (hX b hx) q1.below.size
  ·rw [Vz] at e
   obtain ⟨i,e,_⟩:=e
   exact q1.owned b i e
 ·intro j cs e
  rcases inv j _ e with ⟨i,rfl,hi⟩|⟨hk,hj⟩
  ·obtain ⟨c,hc,rfl⟩:=Ob.Hd hi
   obtain ⟨b,vs,ty,q⟩:=q1.box i c hc
   refine ⟨b,vs,ty,b1 _ _ q.box,Ti _ q.base,ow _ _ q.base q.own,q.none,q.cq,by simpa [D.gl] using q.len,fun k d v x y=> ?_,fun sz a len cap x=>q.room sz a len cap (by rw [← e2];exact x)⟩
   rw [D.gl,VC,Vz] at x
   obtain ⟨d0,h0,rfl⟩:=x
   exact (q.rep k d0 v h0 y).push _ c1 b1 s1
  ·obtain ⟨b,vs,ty,q⟩:=hw.box j cs hj
   have x:=mk b j _ q.own hk q.cq (fun z hz=>by cases hz)
   exact ⟨b,vs,ty,le.box _ _ q.box,q.base,TP _ _ x q.own,fun o=>SW b o x (q.none o),Sw b _ x q.cq,q.len,fun i d v a c=>(q.rep i d v a c).mono le,fun sz a len cap c=>q.room sz a len cap (by rw [← n2 _ _ hk];exact c)⟩
 ·intro j ver sz e
  rcases inv j _ e with ⟨i,rfl,hi⟩|⟨hk,hj⟩
  ·obtain ⟨a,len,cap,q⟩:=q1.bz i ver sz (Ob.Hc hi)
   exact ⟨a,len,cap,s1 _ _ _ q.bl,fun v hv=>by rw [e2];exact q.last v hv,q.room.imp (fun x=>x) fun ⟨b,vs,ty,fz,ha,r⟩=>⟨b,vs,ty,fz,ha,Ti _ r.base,ow _ _ r.base r.own,r.cq,r.fz,r.cap,r.none⟩⟩
  ·obtain ⟨a,len,cap,q⟩:=hw.bz j ver sz hj
   refine ⟨a,len,cap,le.bl _ _ _ q.bl,fun v hv=>by rw [n2 _ _ hk];exact q.last v hv,q.room.imp (fun x=>x) fun ⟨b,vs,ty,fz,ha,r⟩=> ?_⟩
   have x:=mk b j _ r.own hk r.cq (fun z hz=>by cases hz)
   exact ⟨b,vs,ty,fz,ha,r.base,TP _ _ x r.own,Sw b _ x r.cq,r.fz,r.cap,fun o ho=>SW b o x (r.none o ho)⟩
 ·intro j F e
  rcases inv j _ rfl with ⟨i,rfl,hi⟩|⟨hk,hj⟩
  ·rw [← hi,Ob.zr] at e
   obtain ⟨b,OI,clock,q⟩:=q1.mp i F e
   exact ⟨b,OI,clock,b1 _ _ q.box,Ti _ q.base,ow _ _ q.base q.own,q.none,q.cq,q.fits⟩
  ·rw [← hj] at e
   obtain ⟨b,OI,clock,q⟩:=hw.mp j F e
   have x:=mk b j _ q.own hk q.cq (fun z hz=>by cases hz)
   exact ⟨b,OI,clock,le.box _ _ q.box,q.base,TP _ _ x q.own,fun o=>SW b o x (q.none o),Sw b _ x q.cq,q.fits⟩
 ·intro j k tt ps ag bd e
  rcases inv j _ e with ⟨i,rfl,hi⟩|⟨hk,hj⟩
  ·obtain ⟨t0,h0,rfl⟩:=Ob.IC hi
   obtain ⟨l,r,q⟩:=q1.lp i k t0 ps ag bd h0
   exact ⟨l,r,b1 _ _ q.box,Ti _ q.base,ow _ _ q.base q.own,q.cq,q.st,q.pd,q.tm.push c1 b1 s1,q.ps,q.ag,q.bd⟩
  ·obtain ⟨l,r,q⟩:=hw.lp j k tt ps ag bd hj
   have x:=mk l j _ q.own hk q.cq (fun z hz=>by cases hz)
   exact ⟨l,r,q.bn le (TP _ _ x q.own) (Sw l _ x q.cq)⟩
 ·intro b q
  exact ⟨Ti _ (q1.dW b q).1,(q1.dW b q).2⟩
 ·intro j hj
  rw [sE] at hj
  show (match mQ tb t.length j with|some i=>M'.box i|none=>M.box j)=none
  rw [mQ,if_neg (by omega)]
  exact q2.1 _ (by omega)
 ·intro j v hj
  rw [sE] at hj
  show (match mQ tb t.length j with|some i=>M'.bl i v|none=>M.bl j v)=none
  rw [mQ,if_neg (by omega)]
  exact q2.2 _ v (by omega)
def x2 (w:World) (m:Nat):Option Addr→List Value
  |none=> []
  |some a=>(List.range m).map fun k=>(w.cell? (a.add k)).getD undef
theorem nH (b o k:Nat):({ block:=b,off:=o } :Addr).add k= { block:=b,off:=o+k } :=by
 unfold Addr.add
 split
 ·rename_i h;subst h;rfl
 ·rfl
theorem Bx {P:Program} {g:FuncId} (Cr:J8 P g) {i0:TypeInfo} {z:Value} {t:TypeId} (hz:z.cells.size=i0.size) (R1:0<i0.size) (PZ:i0.bytes≤65536)
  (R:∀(base:Option Addr) (l c n:Nat) (w:World),l≤c→c≤9223372036854775807→n≤9223372036854775807→l+n≤c→Calls P g #[.slice base l c,.int .i64 n] w fun e w'=>e= .returned (.slice base l c)∧w'=w)
  (G:∀(base:Option Addr) (l c n:Nat) (cs:List Value) (w:World),l≤c→c<l+n→(l+n)*i0.bytes≤140737488355328→l+n≤4611686018427387904→cs.length=c*i0.size→(base=none→c=0)→(∀a,base=some a→∀j v,cs[j]? =some v→w.cell? (a.add j)=some v)→
   Calls P g #[.slice base l c,.int .i64 n] w fun e w'=>e= .returned (.slice (some ⟨w.heap.size,0,none⟩) l (grownCap w (l+n) c t))∧w'=w.drew.alloc (.cells (cs.toArray++Builtin.zeroCells z.cells (l+n - c)++Builtin.zeroCells z.cells (grownCap w (l+n) c t - (l+n))) t))
  (xs:List D) (n v:Nat) (hx:xs.length≤1000000) (hn:n≤1000000):
  cO P g [.aj (.tok 0 v) i0.size xs,.int .i64 (n:Int)] [.bz v i0.size] (.aj (.tok 0 (v+1)) i0.size xs) [.bz (v+1) i0.size]:=by
 refine ⟨Cr,Vq _,fun w0 M own w vs hw hu hr=> ?_⟩
 obtain ⟨a,b,rfl⟩:∃a b,vs= #[a,b]:=by
  rcases vs with ⟨l⟩
  have hl:=hr.1
  match l,hl with
  | [a,b],_=>exact ⟨a,b,rfl⟩
 have ra:=hr.2 0 _ a rfl rfl
 have rb:=hr.2 1 _ b rfl rfl
 have eb:b= .int .i64 (n:Int):=by cases rb;rfl
 subst eb
 have es:∀u,dE (bq [Ob.bz v i0.size]) 0 (.bz u i0.size)=bq [Ob.bz u i0.size]:=fun u=>by
  funext i
  cases i with
  |zero=>rfl
  |succ i=>simp [dE,bq]
 cases ra with
 |aj b off vs hl OL ha OT hc hrr OQ ho=>
  rename_i ad len cap
  obtain ⟨a2,len2,cap2,q⟩:=hw.bz 0 v i0.size rfl
  have ho:M.bl 0 v=some (.slice ad len cap):=ho
  have he:=q.bl
  rw [ho] at he
  obtain ⟨rfl,rfl,rfl⟩:=Value.slice.inj (Vk he)
  have Rc:∀k,v+1≤k→M.bl 0 k=none:=fun k hk=>q.last k (by omega)
  have T7:cap≤9223372036854775807:=by
   rcases q.room with e|⟨_,_,_,_,_,r⟩
   ·omega
   ·exact r.cap.2
  have up:∀(M':MM),M'.box=M.box→(∀j,j≠0→M'.bl j=M.bl j)→M'.upto 1:=fun M' h1 h2=>⟨fun id hi=>by rw [h1];exact hu.1 id hi,fun id k hi=>by rw [h2 id (by omega)];exact hu.2 id k hi⟩
  rcases VA cap (len+n) with OK|hge
  ·
   have Pu:∀TK,ad=some TK→∀k,k<cap*i0.size→∃u,w.cell? (TK.add k)=some u:=by
    intro TK e k hk
    rcases q.room with ec|⟨b2,vs2,ty2,fz2,e2,r⟩
    ·have O0:xs≠ []:=fun e0=>by
      rw [ec,← hl,e0] at hk
      simp at hk
     have e3:=ha O0
     rw [e] at e3
     obtain rfl:=Vk e3
     have Rt:k / i0.size<xs.length:=(Nat.div_lt_iff_lt_mul R1).2 (by rw [hl,← ec];exact hk)
     have TM:xs[k / i0.size]? =some xs[k / i0.size]:=by simp [Rt]
     obtain ⟨cs,OJ,hlen⟩:=OT _ _ TM
     have hm:k%i0.size<cs.length:=by rw [hlen];exact Nat.mod_lt _ R1
     have:=hw.cells _ _ _ (hc _ _ cs (k%i0.size) cs[k%i0.size] TM OJ (by simp [hm]))
     rw [Nat.add_assoc,show k / i0.size*i0.size+k%i0.size=k by rw [Nat.mul_comm];exact Nat.div_add_mod k _] at this
     exact ⟨_,by rw [nH];exact this⟩
    ·rw [e] at e2
     obtain rfl:=Vk e2
     have Rt:k<vs2.size:=Nat.lt_of_lt_of_le hk r.cap.1
     refine ⟨vs2[k],?_⟩
     rw [nH,VT]
     simp [World.cell?,r.cq,Rt]
   have QN:ad=none→cap=0:=fun e=>by
    rcases q.room with ec|⟨_,_,_,_,e2,_⟩
    ·rw [ec,← hl]
     cases xs with
     |nil=>rfl
     |cons x r=>have:=ha (by simp);rw [e] at this;cases this
    ·rw [e] at e2;cases e2
   obtain ⟨cs,hcsd⟩:∃cs,cs=x2 w (cap*i0.size) ad:=⟨_,rfl⟩
   have Px:cs.length=cap*i0.size:=by
    rw [hcsd]
    cases had:ad with
    |none=>rw [QN had];simp [x2]
    |some TK=>simp [x2]
   have OJ:∀a,ad=some a→∀j u,cs[j]? =some u→w.cell? (a.add j)=some u:=by
    intro a e j u hj
    have RY:((List.range (cap*i0.size)).map fun k=>(w.cell? (a.add k)).getD undef)[j]? =some u:=by
     rw [hcsd,e] at hj
     exact hj
    rw [VC,Vz] at RY
    obtain ⟨k,hk,rfl⟩:=RY
    have Qu:j<cap*i0.size:=by
     rcases VA j (cap*i0.size) with q|q
     ·exact q
     ·rw [Vw (by simpa using q)] at hk;cases hk
    rw [List.getElem?_range Qu] at hk
    cases hk
    obtain ⟨u,hu2⟩:=Pu a e j Qu
    rw [hu2]
    rfl
   have Ra:fC M i0.size xs cs.toArray:=by
    refine ⟨by simp only [List.size_toArray];rw [Px,hl];exact V7 _ OL,OT,?_,OQ⟩
    intro i x xc j c h1 h2 h3
    refine ⟨vs i j,?_,hrr i x xc j c h1 h2 h3⟩
    have O0:xs≠ []:=fun e0=>by rw [e0] at h1;simp at h1
    have e3:=ha O0
    have hm:=hw.cells _ _ _ (hc i x xc j c h1 h2 h3)
    obtain ⟨xc',q1,q2⟩:=OT i x h1
    rw [h2] at q1
    obtain rfl:=Vk q1
    have Qr:j<i0.size:=by
     rcases VA j xc.length with q|q
     ·omega
     ·simp [Vw q] at h3
    have QZ:i<xs.length:=by
     rcases VA i xs.length with q|q
     ·exact q
     ·simp [Vw q] at h1
    have hk:i*i0.size+j<cap*i0.size:=Nat.lt_of_lt_of_le (lI QZ Qr) (by rw [hl];exact V7 _ OL)
    have Rt:i*i0.size+j<cs.length:=by rw [Px];exact hk
    have:=OJ _ e3 (i*i0.size+j) cs[i*i0.size+j] (by simp [Rt])
    have e4:w.cell? (({ block:=b,off:=off } :Addr).add (i*i0.size+j))=some (vs i j):=by
     rw [nH,← Nat.add_assoc];exact hm
    rw [e4] at this
    rw [List.getElem?_toArray,V3 Rt]
    exact this.symm
   have TC:(len+n)*i0.bytes≤140737488355328:=by
    have:=Nat.mul_le_mul (show len+n≤2000000 by omega) PZ
    omega
   have hgm:grownCap w (len+n) cap t≤9223372036854775807:=Wo (grownCap_le_maxLen w _ _ _ (by unfold maxLen;omega)) (by unfold maxLen;omega)
   have hgg:len+n≤grownCap w (len+n) cap t:=grownCap_ge w _ _ _
   refine Calls.mono (G ad len cap n cs w OL OK TC (by omega) Px QN OJ) ?_
   rintro e w' ⟨rfl,rfl⟩
   generalize grownCap w (len+n) cap t=nc at*
   let arr:=cs.toArray++Builtin.zeroCells z.cells (len+n - cap)++Builtin.zeroCells z.cells (nc - (len+n))
   have PU:fC M i0.size xs arr:=by
    refine ⟨Wo Ra.len (by simp only [arr,Wj];omega),Ra.elem,fun i x xc j c h1 h2 h3=> ?_,Ra.st⟩
    obtain ⟨u,g1,g2⟩:=Ra.get i x xc j c h1 h2 h3
    have Qu:i*i0.size+j<cs.toArray.size:=by
     rcases VA (i*i0.size+j) cs.toArray.size with q|q
     ·exact q
     ·rw [Array.getElem?_eq_none q] at g1;cases g1
    refine ⟨u,?_,g2⟩
    simp only [arr]
    rw [V0 (by rw [Wj];omega),V0 Qu]
    exact g1
   have Pm:arr.size=nc*i0.size:=by
    simp only [arr,Wj,size_zeroCells,List.size_toArray,Px,hz,← Nat.add_mul]
    congr 1;omega
   have QX:=mH (M:=M) (w:=w) (wd:=w.drew) (arr:=arr) (ty:=t) (n:=len*i0.size) hw.cells rfl (Below.refl _ _).drew (0,0)
   obtain ⟨Qx,P5⟩:=hw.ext QX rfl rfl rfl
   have QO:(w.drew.alloc (.cells arr t (0,0))).heap[w.heap.size]? =some (.cells arr t (0,0)):=by
    show (w.heap.push _)[w.heap.size]? =_
    simp
   have PG:own w.heap.size=none:=by
    cases e:own w.heap.size with
    |none=>rfl
    |some q=>have:=hw.owned _ _ e;omega
   obtain ⟨OH,hw3⟩:=Qx.lH (id:=0) (ver:=v+1) Rc (a:=some ⟨w.heap.size,0,none⟩) (len:=len) (cap:=nc) i0.size
    (.inr ⟨w.heap.size,arr,t,(0,0),rfl,hw.below.new,.inl PG,QO,fun o _ h=>by have:=h.2;simp at this,⟨by rw [Pm];exact Vq _,hgm⟩,fun o ho=>by
     simp only [MM.lay,MM.bC,if_true];rw [if_neg (by omega)]⟩)
   have Qp:=MM.cA (M:=M.lay w.heap.size arr (len*i0.size)) (id:=0) (ver:=v+1) (v:= .slice (some ⟨w.heap.size,0,none⟩) len nc) (Rc _ (Vq _))
   rw [es] at hw3
   refine ⟨_,_,OH,rfl,hw3,up _ rfl (fun j hj=>by funext k;simp [MM.aW,hj,MM.lay,MM.bC]),P5.trans Qp,?_⟩
   have h5:=ml (M:=M) (b:=w.heap.size) (o:= .no) (cap:=nc) (n:=len*i0.size) PU (cV hw.cells (Vq _)) (by omega) (by rw [hl];exact Vq _) trivial
   rw [hl] at h5
   exact (h5.mono Qp).flag _ (by simp [MM.lM,MM.aW])
  ·
   refine Calls.mono (R ad len cap n w OL T7 (by omega) hge) ?_
   rintro e w' ⟨rfl,rfl⟩
   obtain ⟨OH,hw3⟩:=hw.lH (id:=0) (ver:=v+1) Rc (a:=ad) (len:=len) (cap:=cap) i0.size
    (q.room.imp (fun x=>x) fun ⟨b2,vs2,ty2,fz2,e2,r⟩=>⟨b2,vs2,ty2,fz2,e2,r.base,.inr r.own,r.cq,r.fz,r.cap,r.none⟩)
   have Qp:=MM.cA (M:=M) (id:=0) (ver:=v+1) (v:= .slice ad len cap) (Rc _ (Vq _))
   rw [es] at hw3
   refine ⟨_,_,OH,rfl,hw3,up _ rfl (fun j hj=>by funext k;simp [MM.aW,hj]),Qp,?_⟩
   exact ((bo.aj (o:= .no) b off vs hl OL ha OT hc hrr OQ trivial).mono Qp).flag _ (by simp [MM.lM,MM.aW])
end Go.Ev
namespace Go.Proofs.YtkpneibifdoecaaGreat
open Go Go.Ev
abbrev N6 (l:List Mv) (sc:Int) (k:Nat):List D:= [.aj .no 2 (eN l),.int .i8 sc,.undef,.undef,.undef,.undef,.aj .tight 0 [],.aj .tight 0 [],.int .i64 (k:Int),.undef,.undef,.undef,.undef,.undef,.undef,.undef,.undef,.undef,.undef,.undef,.undef,.undef,.undef,.undef,.undef,.undef,.undef,.undef,.undef,.undef,.undef,.undef,.undef,.undef,.undef,.undef,.undef,.undef,.undef,.undef,.undef,.undef,.undef,.undef,.undef,.undef,.undef,.undef,.undef,.undef,.undef,.undef,.undef,.undef,.undef,.undef,.undef,.undef,.undef,.undef,.undef,.undef,.undef,.undef,.undef,.undef,.undef,.undef,.undef,.undef,.undef,.undef,.undef,.undef,.undef,.undef,.undef,.undef,.undef,.undef,.undef,.undef,.undef,.undef,.undef,.undef,.undef,.undef,.undef,.undef,.undef,.undef,.undef,.undef,.undef,.undef,.undef,.undef]
abbrev N7 (sc:Int):List D:= [.undef,.int .i8 sc,.undef,.undef,.undef,.undef,.aj .tight 0 [],.aj .tight 0 [],.undef,.undef,.undef,.undef,.undef,.undef,.undef,.undef,.undef,.undef,.undef,.undef,.undef,.undef,.undef,.undef,.undef,.undef,.undef,.undef,.undef,.undef,.undef,.undef,.undef,.undef,.undef,.undef,.undef,.undef,.undef,.undef,.undef,.undef,.undef,.undef,.undef,.undef,.undef,.undef,.undef,.undef,.undef,.undef,.undef,.undef,.undef,.undef,.undef,.undef,.undef,.undef,.undef,.undef,.undef,.undef,.undef,.undef,.undef,.undef,.undef,.undef,.undef,.undef,.undef,.undef,.undef,.undef,.undef,.undef,.undef,.undef,.undef,.undef,.undef,.undef,.undef,.undef,.undef,.undef,.undef,.undef,.undef,.undef,.undef,.undef,.undef,.undef,.undef,.undef]
abbrev N4 (l:List Mv) (sc:Int) (q k:Nat):List D:= [.aj .no 2 (eN l),.int .i8 sc,.undef,.undef,.undef,.undef,.bR 1 2 q,.aj .tight 0 [],.int .i64 (k:Int),.undef,.undef,.undef,.undef,.undef,.undef,.undef,.undef,.undef,.undef,.undef,.undef,.undef,.undef,.undef,.undef,.undef,.undef,.undef,.undef,.undef,.undef,.undef,.undef,.undef,.undef,.undef,.undef,.undef,.undef,.undef,.undef,.undef,.undef,.undef,.undef,.undef,.undef,.undef,.undef,.undef,.undef,.undef,.undef,.undef,.undef,.undef,.undef,.undef,.undef,.undef,.undef,.undef,.undef,.undef,.undef,.undef,.undef,.undef,.undef,.undef,.undef,.undef,.undef,.undef,.undef,.undef,.undef,.undef,.undef,.undef,.undef,.undef,.undef,.undef,.undef,.undef,.undef,.undef,.undef,.undef,.undef,.undef,.undef,.undef,.undef,.undef,.undef,.undef]
abbrev N5 (sc:Int) (q:Nat):List D:= [.undef,.int .i8 sc,.undef,.undef,.undef,.undef,.bR 1 2 q,.aj .tight 0 [],.undef,.undef,.undef,.undef,.undef,.undef,.undef,.undef,.undef,.undef,.undef,.undef,.undef,.undef,.undef,.undef,.undef,.undef,.undef,.undef,.undef,.undef,.undef,.undef,.undef,.undef,.undef,.undef,.undef,.undef,.undef,.undef,.undef,.undef,.undef,.undef,.undef,.undef,.undef,.undef,.undef,.undef,.undef,.undef,.undef,.undef,.undef,.undef,.undef,.undef,.undef,.undef,.undef,.undef,.undef,.undef,.undef,.undef,.undef,.undef,.undef,.undef,.undef,.undef,.undef,.undef,.undef,.undef,.undef,.undef,.undef,.undef,.undef,.undef,.undef,.undef,.undef,.undef,.undef,.undef,.undef,.undef,.undef,.undef,.undef,.undef,.undef,.undef,.undef,.undef]
end Go.Proofs.YtkpneibifdoecaaGreat
