import Derived.Test.YtkpneibifdoecaaGreatU02
open List renaming length_append→Vd,length_cons→Vf,length_nil→Vg,getD_eq_getElem?_getD→Vr,getElem?_eq_none→Vw,length_singleton→VX,mem_cons→V6,getElem?_cons_succ→V8,getElem?_set_ne→Wi,getElem?_take→WJ
open Bool renaming and_eq_true→Vi,not_eq_true'→Vm,or_eq_true→Vp
open Option.some renaming inj→Vk
open Nat renaming le_refl→Vq,lt_or_ge→VA,beq_eq→VJ,zero_add→VT,ble_eq→Wg
open Array renaming getElem?_toList→VE,getD_eq_getD_getElem? →VR,getElem?_eq_none→VV,length_toList→V2,getElem?_setIfInBounds_ne→V4
open Option renaming getD_some→V9,map_some→Wv,bind_some→Wz
open Go.Region renaming wanted→Wf
/- Contracts and plain laws that a statement's proof leans on (texts merged:EvN). -/
set_option linter.unusedVariables false
set_option linter.unusedSimpArgs false
namespace Go.Ev
open Go Go.RowKit
section
variable {ρ':Type}
mutual
theorem force_eq:∀(d:D) (K:D→Option ρ'),force d K=K d
  | .undef,K=>by simp [force]
  | .int _ _,K=>by simp [force]
  | .bool _,K=>by simp [force]
  | .str _,K=>by simp [force]
  | .fL,K=>by simp [force]
  | .ptr _ _ _,K=>by simp [force]
  | .cT _ _ _,K=>by simp [force]
  | .bp _,K=>by simp [force]
  | .jx _,K=>by simp [force]
  | .bR _ _ _,K=>by simp [force]
  | .sub _ _ _ _ _,K=>by simp [force]
  | .aj _ _ _,K=>by simp [force]
  | .av,K=>by simp [force]
  | .fn f a b,K=>by rw [force,eW,eW]
  | .agg cs,K=>by rw [force,eW]
  | .aM cs,K=>by rw [force,eW]
theorem eW:∀(l:List D) (K:List D→Option ρ'),gq l K=K l
  | [],K=>by simp [gq]
  |d::r,K=>by rw [gq,force_eq,eW]
end
theorem zn:∀(l:List D) (i:Nat) (d:D) (K:List D→Option ρ'),AE l i d K=K (l.set i d)
 | [],i,d,K=>by simp [AE]
 |a::r,0,d,K=>by simp [AE]
 |a::r,i+1,d,K=>by rw [AE,zn];rfl
theorem iL (t:List D) (dst:Option Nat) (d:D) (K:List D→Option ρ'):lk t dst d K=K (put t dst d):=by
 cases dst with
 |none=>rfl
 |some i=>simp only [lk,force_eq,zn,put]
theorem gi:∀(l:List Ob) (i:Nat) (d:Ob) (K:List Ob→Option ρ'),iJ l i d K=K (l.set i d)
 | [],i,d,K=>by simp [iJ]
 |a::r,0,d,K=>by simp [iJ]
 |a::r,i+1,d,K=>by rw [iJ,gi];rfl
theorem pX:∀(es:List (List D×D)) (K:List (List D×D)→Option ρ'),oH es K=K es
 | [],_=>rfl
 |(n,d)::r,K=>by simp [oH,eW,force_eq,pX r]
theorem x6 (o:Ob) (K:Ob→Option ρ'):te o K=K o:=by cases o<;>simp [te,eW,pX]
theorem pW {ρ':Type} {P:Program} {r:ρ'} {z:Z P} {o:Ob} {k:Z P→Ob→Option ρ'} (h:nk z o k=some r):∃z',k z' o=some r∧(z'.c→z.c):=by
 unfold nk at h
 split at h
 ·exact ⟨_,h,id⟩
 ·rw [x6] at h
  exact ⟨_,h,id⟩
theorem mX:∀(l:List Ob) (o:Ob) (K:List Ob→Option ρ'),lL l o K=K (l++ [o])
 | [],o,K=>by simp [lL]
 |a::r,o,K=>by rw [lL,mX];rfl
end
structure Tr where
  o:Oper
  t:List D
  s:List Ob
  e:Option gZ
  k:List Nat
  kc:List (Nat×Nat)
def Tr.val (x:Tr):D:=match x.e with|none=> .aM []|some e=>e.val x.s.length
def Tr.zK (x:Tr):List D:=put x.t x.o.dst x.val
def Tr.dQ (x:Tr):List Ob:=match x.e with
  |some (.dE i _ o' _)=>x.s.set i o'
  |some (.new o' _)=>x.s++ [o']
  |some (.all s' _)=>s'
  |_=>x.s
def Tr.fp (x:Tr):FP:=match x.e with
  |some (.read i _ _)=> .rd i
  |some (.gm i j _)=> .qz i j
  |some (.dE i _ _ _)=> .wr i
  |some (.new _ _)=> .nw x.s.length
  |some (.all _ _)=> .all x.k x.kc
  |_=> .Hu
def Tr.Js (x:Tr):Prop:=match x.e with
  |some (.all s' _)=>(∀i∈x.k,i<x.s.length∧x.s.getD i .dead=s'.getD i .dead)∧∀i j,(i,j)∈x.kc→eZ (x.s.getD i .dead) j=eZ (s'.getD i .dead) j
  |_=>True
def Tr.FD (P:Program) (ops:Array Oper) (x:Tr):Prop:=
  match x.o.guard with
  |none=> ∃e,x.e=some e∧hJ P x.o (bB x.t) x.s e
  |some (j,want)=>(∃b,iA ops x.t j= .bool b∧((b=want∧∃e,x.e=some e∧hJ P x.o (bB x.t) x.s e)∨(b≠want∧x.e=none)))∨(iA ops x.t j= .aM []∧x.e=none)
def Tr.ok (P:Program) (ops:Array Oper) (x:Tr):Prop:=x.FD P ops∧x.Js
theorem na {s s':List Ob} :∀(l:List (Nat×Ob)) {c:Prop},pJ s.length l=true→z4 s s' l c→c∧∀i∈kW l,i<s.length∧s.getD i .dead=s'.getD i .dead
 | [],c,_,h=>⟨h,fun i hi=>by simp [kW] at hi⟩
 |(i,o)::r,c,hl,h=>by
  simp only [pJ] at hl
  split at hl
  ·rename_i OK
   obtain ⟨⟨⟨h1,h2⟩,h3⟩,h4⟩:=na r hl h
   refine ⟨h3,fun j hj=> ?_⟩
   rw [kW,V6] at hj
   rcases hj with rfl|hj
   ·exact ⟨Nat.lt_of_succ_le (by simpa [Nat.blt,Wg] using OK),h1.symm.trans h2⟩
   ·exact h4 j hj
  ·cases hl
theorem rJ {s s':List Ob} :∀(l:List (Nat×Nat×D)) {c:Prop},El s s' l c→c∧∀i j,(i,j)∈mL l→eZ (s.getD i .dead) j=eZ (s'.getD i .dead) j
 | [],c,h=>⟨h,fun i j hi=>by simp [mL] at hi⟩
 |(i,j,d)::r,c,h=>by
  obtain ⟨⟨⟨h1,h2⟩,h3⟩,h4⟩:=rJ r h
  refine ⟨h3,fun a b hj=> ?_⟩
  rw [mL,V6] at hj
  rcases hj with e|hj
  ·cases e;exact h1.symm.trans h2
  ·exact h4 a b hj
theorem Bd {ρ':Type} {P:Program} {r:ρ'} {z:Z P} {s s':List Ob} {k:Z P→List Nat→List (Nat×Nat)→Option ρ'} (h:zY z s s' k=some r):∃z' l kc,k z' l kc=some r∧(z'.c→z.c∧(∀i∈l,i<s.length∧s.getD i .dead=s'.getD i .dead)∧∀i j,(i,j)∈kc→eZ (s.getD i .dead) j=eZ (s'.getD i .dead) j):=by
 unfold zY at h
 split at h
 ·rename_i l rest hz
  obtain ⟨hl,h⟩:=bg h
  refine ⟨_,_,_,h,fun hc=> ?_⟩
  obtain ⟨h1,h2⟩:=na l hl hc
  exact ⟨h1,h2,fun i j hi=>by simp at hi⟩
 ·rename_i cs l rest hz
  obtain ⟨hl,h⟩:=bg h
  refine ⟨_,_,_,h,fun hc=> ?_⟩
  obtain ⟨h0,h3⟩:=rJ cs hc
  obtain ⟨h1,h2⟩:=na l hl h0
  exact ⟨h1,h2,h3⟩
 ·exact ⟨z,[],[],h,fun c=>⟨c,fun i hi=>by simp at hi,fun i j hi=>by simp at hi⟩⟩
def Trace (P:Program) (ops:Array Oper):List Oper→List D→List Ob→List Tr→List D→List Ob→Prop
  | [],t,s,tr,t',s'=>tr= []∧t'=t∧s'=s
  |o::rest,t,s,tr,t',s'=> ∃x xs,tr=x::xs∧x.o=o∧x.t=t∧x.s=s∧x.ok P ops∧Trace P ops rest x.zK x.dQ xs t' s'
theorem eL {ρ':Type} {P:Program} {r:ρ'} {inl:Ak P ρ'} (Pd:jv P inl) {ops:Array Oper} :∀ {rest:List Oper} {t:List D} {s:List Ob} {Qa:List FP} {z:Z P} {K:List D→List Ob→List FP→Z P→Option ρ'},kp P inl ops rest t s Qa z K=some r→
  ∃tr t' s' z',K t' s' ((tr.map Tr.fp).reverse++Qa) z'=some r∧(z'.c→z.c∧Trace P ops rest t s tr t' s')
 | [],t,s,Qa,z,K,h=>⟨[],t,s,z,h,fun c=>⟨c,rfl,rfl,rfl⟩⟩
 |o::rest,t,s,Qa,z,K,h=>by
  have run:∀ {z:Z P} {want:Prop},(Ke P inl o t s z fun z e=>match e with
    | .pure d=>lk t o.dst d fun t'=>kp P inl ops rest t' s (.Hu::Qa) z K
    | .read id _ d=>lk t o.dst d fun t'=>kp P inl ops rest t' s (.rd id::Qa) z K
    | .gm id j d=>lk t o.dst d fun t'=>kp P inl ops rest t' s (.qz id j::Qa) z K
    | .dE id _ o' d=>lk t o.dst d fun t'=>nk z o' fun z o2=>iJ s id o2 fun s'=>kp P inl ops rest t' s' (.wr id::Qa) z K
    | .new o' mk=>lk t o.dst (mk s.length) fun t'=>nk z o' fun z o2=>lL s o2 fun s'=>kp P inl ops rest t' s' (.nw s.length::Qa) z K
    | .all s' d=>lk t o.dst d fun t'=>zY z s s' fun z l kc=>kp P inl ops rest t' s' (.all l kc::Qa) z K)=some r→
    ∃e l kc tr t' s' z',K t' s' ((tr.map Tr.fp).reverse++((⟨o,t,s,some e,l,kc⟩:Tr).fp::Qa)) z'=some r∧(z'.c→z.c∧hJ P o (bB t) s e∧(⟨o,t,s,some e,l,kc⟩:Tr).Js∧Trace P ops rest (⟨o,t,s,some e,l,kc⟩:Tr).zK (⟨o,t,s,some e,l,kc⟩:Tr).dQ tr t' s'):=by
   intro z want h
   obtain ⟨e,z1,h1,h2⟩:=Fz Pd h
   cases e with
   |pure d=>
    simp only [iL] at h1
    obtain ⟨tr,t',s',z',k1,k2⟩:=eL Pd h1
    exact ⟨.pure d,[],[],tr,t',s',z',k1,fun c=>⟨(h2 (k2 c).1).1,(h2 (k2 c).1).2,trivial,(k2 c).2⟩⟩
   |read i ob d=>
    simp only [iL] at h1
    obtain ⟨tr,t',s',z',k1,k2⟩:=eL Pd h1
    exact ⟨.read i ob d,[],[],tr,t',s',z',k1,fun c=>⟨(h2 (k2 c).1).1,(h2 (k2 c).1).2,trivial,(k2 c).2⟩⟩
   |gm i j d=>
    simp only [iL] at h1
    obtain ⟨tr,t',s',z',k1,k2⟩:=eL Pd h1
    exact ⟨.gm i j d,[],[],tr,t',s',z',k1,fun c=>⟨(h2 (k2 c).1).1,(h2 (k2 c).1).2,trivial,(k2 c).2⟩⟩
   |dE i ob Rf d=>
    simp only [iL] at h1
    obtain ⟨z2,h3,h4⟩:=pW h1
    rw [gi] at h3
    obtain ⟨tr,t',s',z',k1,k2⟩:=eL Pd h3
    exact ⟨.dE i ob Rf d,[],[],tr,t',s',z',k1,fun c=>⟨(h2 (h4 (k2 c).1)).1,(h2 (h4 (k2 c).1)).2,trivial,(k2 c).2⟩⟩
   |new ob mk=>
    simp only [iL] at h1
    obtain ⟨z2,h3,h4⟩:=pW h1
    rw [mX] at h3
    obtain ⟨tr,t',s',z',k1,k2⟩:=eL Pd h3
    exact ⟨.new ob mk,[],[],tr,t',s',z',k1,fun c=>⟨(h2 (h4 (k2 c).1)).1,(h2 (h4 (k2 c).1)).2,trivial,(k2 c).2⟩⟩
   |all s2 d=>
    simp only [iL] at h1
    obtain ⟨z2,l,kc,h3,h4⟩:=Bd h1
    obtain ⟨tr,t',s',z',k1,k2⟩:=eL Pd h3
    exact ⟨.all s2 d,l,kc,tr,t',s',z',k1,fun c=>⟨(h2 (h4 (k2 c).1).1).1,(h2 (h4 (k2 c).1).1).2,(h4 (k2 c).1).2,(k2 c).2⟩⟩
  unfold kp at h
  simp only at h
  split at h
  ·rename_i hg
   obtain ⟨e,l,kc,tr,t',s',z',k1,k2⟩:=run (want:=True) h
   refine ⟨⟨o,t,s,some e,l,kc⟩::tr,t',s',z',by simpa using k1,fun c=>⟨(k2 c).1,_,_,rfl,rfl,rfl,rfl,⟨?_,(k2 c).2.2.1⟩,(k2 c).2.2.2⟩⟩
   simp only [Tr.FD,hg]
   exact ⟨e,rfl,(k2 c).2.1⟩
  ·rename_i j want hg
   split at h
   ·rename_i b hb
    obtain ⟨z1,⟨h1,h2⟩|⟨h1,h2⟩⟩:=iD h
    ·obtain ⟨e,l,kc,tr,t',s',z',k1,k2⟩:=run (want:=True) h1
     refine ⟨⟨o,t,s,some e,l,kc⟩::tr,t',s',z',by simpa using k1,fun c=>⟨(h2 (k2 c).1).1,_,_,rfl,rfl,rfl,rfl,⟨?_,(k2 c).2.2.1⟩,(k2 c).2.2.2⟩⟩
     simp only [Tr.FD,hg]
     exact .inl ⟨b,hb,.inl ⟨by simpa using (h2 (k2 c).1).2,e,rfl,(k2 c).2.1⟩⟩
    ·rw [iL] at h1
     obtain ⟨tr,t',s',z',k1,k2⟩:=eL Pd h1
     refine ⟨⟨o,t,s,none,[],[]⟩::tr,t',s',z',by simpa [Tr.fp] using k1,fun c=>⟨(h2 (k2 c).1).1,_,_,rfl,rfl,rfl,rfl,⟨?_,trivial⟩,(k2 c).2⟩⟩
     simp only [Tr.FD,hg]
     exact .inl ⟨b,hb,.inr ⟨by simpa using (h2 (k2 c).1).2,trivial⟩⟩
   ·rename_i hb
    rw [iL] at h
    obtain ⟨tr,t',s',z',k1,k2⟩:=eL Pd h
    refine ⟨⟨o,t,s,none,[],[]⟩::tr,t',s',z',by simpa [Tr.fp] using k1,fun c=>⟨(k2 c).1,_,_,rfl,rfl,rfl,rfl,⟨?_,trivial⟩,(k2 c).2⟩⟩
    simp only [Tr.FD,hg]
    exact .inr ⟨hb,trivial⟩
   ·cases h
theorem gO {M M':MM} (le:M.Le M') {t:List D} {a:Act} (h:bT M t a.tmps) {dst:Option Nat} {d:D} {v:Value} (hr:bo M' d v):bT M' (put t dst d) (a.put dst v).tmps:=by
 cases dst with
 |none=>exact h.mono le
 |some i=>
  refine ⟨by simp [put,Act.put,h.1],fun k d' v' p q=> ?_⟩
  simp only [put,Act.put] at p q
  by_cases e:i=k
  ·subst e
   have OK:i<t.length:=by
    rcases VA i t.length with x|x
    ·exact x
    ·rw [Vw (by simpa using x)] at p;cases p
   have Qu:i<a.tmps.size:=by rw [← h.1];exact OK
   simp [OK] at p
   simp [Qu] at q
   subst p q
   exact hr
  ·rw [Wi e] at p
   rw [V4 e] at q
   exact (h.2 k d' v' p q).mono le
theorem dg (a:Act) (dst:Option Nat) (v:Value):(a.put dst v).defers=a.defers:=by cases dst<;>rfl
theorem rq {M:MM} {ops:Array Oper} {t:List D} {a:Act} {j:Nat} {b:Bool} (h:∀i,(ops[j]?).bind (·.dst)=some i→bo M (t.getD i .undef) (a.tmps.getD i undef)) (hg:iA ops t j= .bool b):yielded ops a.tmps j=some b:=by
 unfold iA at hg
 split at hg
 ·rename_i o ho
  split at hg
  ·rename_i i hi
   have h1:=h i (by simp [ho,hi])
   rw [hg] at h1
   unfold yielded
   simp only [ho,Wz,hi]
   generalize hv:a.tmps.getD i undef=v at h1
   cases h1
   rw [VR] at hv
   cases e:a.tmps[i]? with
   |none=>rw [e] at hv;cases hv
   |some u=>rw [e] at hv;simp only [V9] at hv;subst hv;rfl
  ·cases hg
 ·cases hg
theorem pf {M:MM} :bo M (.aM []) undef:= .aM rfl (fun i d v h=>by simp at h)
theorem nU {M:MM} {ops:Array Oper} {t:List D} {a:Act} {j:Nat} (h:∀i,(ops[j]?).bind (·.dst)=some i→bo M (t.getD i .undef) (a.tmps.getD i undef)) (hg:iA ops t j= .aM []):yielded ops a.tmps j=none:=by
 unfold iA at hg
 split at hg
 ·rename_i o ho
  split at hg
  ·rename_i i hi
   have h1:=h i (by simp [ho,hi])
   rw [hg] at h1
   unfold yielded
   simp only [ho,Wz,hi]
   generalize hv:a.tmps.getD i undef=v at h1
   cases h1
   rw [VR] at hv
   cases e:a.tmps[i]? with
   |none=>rfl
   |some u=>rw [e] at hv;simp only [V9] at hv;subst hv;rfl
  ·cases hg
 ·cases hg
theorem ic {M:MM} {t:List D} {vs:Array Value} (h:bT M t vs) (i:Nat):bo M (t.getD i .undef) (vs.getD i undef):=by
 cases e:t[i]? with
 |none=>rw [Vr,e];exact .undef _
 |some d=>
  obtain ⟨v,hv,hr⟩:=h.get e
  rw [Vr,e,VR,hv]
  exact hr
theorem kg {s:List Ob} {i:Nat} (h:i<s.length) (o:Ob):bq (s.set i o)=dE (bq s) i o:=by
 funext k
 unfold bq dE
 simp only [Vr]
 by_cases e:k=i
 ·subst e;rw [List.getElem?_set_self h];simp
 ·rw [Wi (Ne.symm e),if_neg e]
theorem mT (s:List Ob) (o:Ob):bq (s++ [o])=dE (bq s) s.length o:=by
 funext k
 unfold bq dE
 simp only [Vr,List.getElem?_append]
 by_cases e:k=s.length
 ·subst e;simp
 ·rw [if_neg e]
  split
  ·rfl
  ·rename_i h
   rw [Vw (by simp;omega),Vw (by omega)]
theorem MM.jf {M M':MM} {n m:Nat} (h:M.upto n) (hb:∀j,m≤j→M'.box j=M.box j) (hh:∀j,m≤j→M'.bl j=M.bl j) (hm:n≤m):M'.upto m:=
 ⟨fun id hi=>by rw [hb id hi];exact h.1 id (by omega),fun id v hi=>by rw [hh id hi];exact h.2 id v (by omega)⟩
theorem AB {P:Program} {ops:Array Oper} {x:Tr} (hx:x.ok P ops) {w0:dm} {M:MM} {own:Nat→Option Nat} {w:World} {a:Act} (hw:bu w0 M own (bq x.s) w) (hu:M.upto x.s.length) (ht:bT M x.t a.tmps)
  {next:Act→World→Prop} {Q:Exit→Act→World→Prop}
  (hn:∀M' OH w' a',M.Le M'→M'.upto x.dQ.length→bu w0 M' OH (bq x.dQ) w'→bT M' x.zK a'.tmps→a'.defers=a.defers→next a' w'):
  (if Wf x.o (yielded ops a.tmps) then EJ P x.o a w next Q else next (a.put x.o.dst undef) w)∧x.s.length≤x.dQ.length:=by
 obtain ⟨o,t,s,e,l,kc⟩:=x
 replace hx:=hx.1
 replace hu:M.upto s.length:=hu
 replace hw:bu w0 M own (bq s) w:=hw
 replace ht:bT M t a.tmps:=ht
 have Sc:∀ {e0:gZ},e=some e0→hJ P o (bB t) s e0→EJ P o a w next Q∧s.length≤(⟨o,t,s,e,l,kc⟩:Tr).dQ.length:=by
  intro e0 he h0
  subst he
  have Qe:∀y∈o.op.operands,bo M (bB t y) (a.eval y):=fun y _=>mj ht y
  have O8:M.box s.length=none∧∀v,M.bl s.length v=none:=⟨hu.1 _ (Vq _),fun v=>hu.2 _ v (Vq _)⟩
  cases e0 with
  |pure d=>
   exact ⟨h0 w0 M own _ w a s.length hw Qe trivial next Q fun v M' OH w' le ad P2 hr=>hn M' OH w' _ le (MM.jf hu (m:=s.length) (fun j _=>by rw [ad.1]) (fun j _=>by rw [ad.2]) (Vq _)) P2 (gO le ht hr) (dg _ _ _),Vq _⟩
  |gm i j d=>
   exact ⟨h0.2 w0 M own _ w a s.length hw Qe h0.1.1 next Q fun v M' OH w' le ad P2 hr=>hn M' OH w' _ le (MM.jf hu (m:=s.length) (fun j _=>by rw [ad.1]) (fun j _=>by rw [ad.2]) (Vq _)) P2 (gO le ht hr) (dg _ _ _),Vq _⟩
  |read i ob d=>
   exact ⟨h0.2 w0 M own _ w a s.length hw Qe h0.1.1 next Q fun v M' OH w' le ad P2 hr=>hn M' OH w' _ le (MM.jf hu (m:=s.length) (fun j _=>by rw [ad.1]) (fun j _=>by rw [ad.2]) (Vq _)) P2 (gO le ht hr) (dg _ _ _),Vq _⟩
  |dE i ob Rf d=>
   refine ⟨h0.2 w0 M own _ w a s.length hw Qe h0.1.1 next Q fun v M' OH w' le ad P2 hr=>hn M' OH w' _ le (by
    simp only [Tr.dQ,List.length_set]
    exact MM.jf hu (fun j _=>by rw [ad.1]) (fun j hj=>ad.2 j (by have:=h0.1.2;omega)) (Vq _)) (by simp only [Tr.dQ];rw [kg h0.1.2];exact P2) (gO le ht hr) (dg _ _ _),by simp [Tr.dQ]⟩
  |new ob mk=>
   refine ⟨h0 w0 M own _ w a s.length hw Qe O8 next Q fun v M' OH w' le ad P2 hr=>hn M' OH w' _ le (by
    simp only [Tr.dQ,Vd,VX]
    exact MM.jf hu (fun j hj=>ad.1 j (by omega)) (fun j hj=>ad.2 j (by omega)) (by omega)) (by simp only [Tr.dQ];rw [mT];exact P2) (gO le ht hr) (dg _ _ _),by simp [Tr.dQ]⟩
  |all s' d=>
   exact ⟨h0.2 w0 M own w a hw hu Qe next Q fun v M' OH w' le up P2 hr=>hn M' OH w' _ le up P2 (gO le ht hr) (dg _ _ _),h0.1⟩
 unfold Tr.FD at hx
 simp only at hx
 split at hx
 ·rename_i hg
  obtain ⟨e0,he,h0⟩:=hx
  obtain ⟨k1,k2⟩:=Sc he h0
  refine ⟨?_,k2⟩
  have:Wf o (yielded ops a.tmps)=true:=by simp [Wf,hg]
  rw [if_pos this]
  exact k1
 ·rename_i j want hg
  rcases hx with ⟨b,hb,Pp⟩|⟨hb,rfl⟩
  ·have hy:=rq (M:=M) (a:=a) (fun i _=>ic ht i) hb
   rcases Pp with ⟨rfl,e0,he,h0⟩|⟨O0,rfl⟩
   ·obtain ⟨k1,k2⟩:=Sc he h0
    refine ⟨?_,k2⟩
    have:Wf o (yielded ops a.tmps)=true:=by simp [Wf,hg,hy]
    rw [if_pos this]
    exact k1
   ·have:Wf o (yielded ops a.tmps)=false:=by simp [Wf,hg,hy,O0]
    rw [this]
    exact ⟨hn M own w _ (.refl M) hu hw (gO (.refl M) ht pf) (dg _ _ _),Vq _⟩
  ·have hy:=nU (M:=M) (a:=a) (fun i _=>ic ht i) hb
   have:Wf o (yielded ops a.tmps)=false:=by simp [Wf,hg,hy]
   rw [this]
   exact ⟨hn M own w _ (.refl M) hu hw (gO (.refl M) ht pf) (dg _ _ _),Vq _⟩
theorem nN {P:Program} {ops:Array Oper} {w0:dm} {Q:Exit→Act→World→Prop} {df:List Deferred} (rr:Option Nat):∀ {rest:List Oper} {t:List D} {s:List Ob} {tr:List Tr} {t':List D} {s':List Ob},Trace P ops rest t s tr t' s'→
  ∀ {M:MM} {own:Nat→Option Nat} {w:World} {a:Act} (k:Nat),ops.toList.drop k=rest→bu w0 M own (bq s) w→M.upto s.length→bT M t a.tmps→a.defers=df→
  (∀M' OH w' a',M.Le M'→M'.upto s'.length→bu w0 M' OH (bq s') w'→bT M' t' a'.tmps→a'.defers=df→Q .normal a' w')→wpOpsIn (FW rr) 0 P ops Q (List.range' k rest.length) a w
 | [],t,s,tr,t',s',h,M,own,w,a,k,hk,hw,hu,ht,hd,hq=>by
  obtain ⟨rfl,rfl,rfl⟩:=h
  exact hq M own w a (.refl M) hu hw ht hd
 |o::rest,t,s,tr,t',s',h,M,own,w,a,k,hk,hw,hu,ht,hd,hq=>by
  obtain ⟨x,xs,rfl,rfl,rfl,rfl,PI,h⟩:=h
  have Rg:ops[k]? =some x.o:=by
   rw [← VE]
   have:=congrArg (fun l=>l[0]?) hk
   simpa using this
  have S0:ops.toList.drop (k+1)=rest:=by
   have:=congrArg List.tail hk
   simpa using this
  rw [Vf,List.range'_succ]
  simp only [wpOpsIn,Rg]
  have hs:=(AB (next:=wpOpsIn (FW rr) 0 P ops Q (List.range' (k+1) rest.length)) (Q:=Q) PI hw hu ht fun M' OH w' a' le up P2 SY Tm=>nN rr h (k+1) S0 P2 up SY (by rw [Tm];exact hd) fun M2 P6 w2 a2 P5 up2 Qx ht2 hd2=>hq M2 P6 w2 a2 (le.trans P5) up2 Qx ht2 hd2).1
  split
  ·rename_i Ux
   rw [if_pos Ux] at hs
   exact hs rr
  ·rename_i Ux
   rw [if_neg Ux] at hs
   exact ⟨fun _ _=>trivial,hs⟩
theorem mc {P:Program} {ops:Array Oper} :∀ {rest:List Oper} {t:List D} {s:List Ob} {tr:List Tr} {t':List D} {s':List Ob},Trace P ops rest t s tr t' s'→∀(i:Nat) (x:Tr),tr[i]? =some x→rest[i]? =some x.o∧x.ok P ops
 | [],_,_,_,_,_,h,i,x,hx=>by obtain ⟨rfl,_⟩:=h;simp at hx
 |o::rest,_,_,_,_,_,h,i,x,hx=>by
  obtain ⟨y,xs,rfl,ho,_,_,PI,h⟩:=h
  cases i with
  |zero=>simp at hx;subst hx;exact ⟨by simp [ho],PI⟩
  |succ i=>exact mc h i x (by simpa using hx)
theorem qV {P:Program} {ops:Array Oper} {x:Tr} (h:x.ok P ops):x.s.length≤x.dQ.length:=by
 obtain ⟨o,t,s,e,l,kc⟩:=x
 replace h:=h.1
 have Sc:∀ {e0:gZ},e=some e0→hJ P o (bB t) s e0→s.length≤(⟨o,t,s,e,l,kc⟩:Tr).dQ.length:=by
  intro e0 he h0
  subst he
  cases e0 with
  |pure d=>exact Vq _
  |read i ob d=>exact Vq _
  |gm i j d=>exact Vq _
  |dE i ob Rf d=>simp [Tr.dQ]
  |new ob mk=>simp [Tr.dQ]
  |all s' d=>exact h0.1
 unfold Tr.FD at h
 simp only at h
 split at h
 ·obtain ⟨e0,he,h0⟩:=h;exact Sc he h0
 ·obtain ⟨b,_,⟨_,e0,he,h0⟩|⟨_,rfl⟩⟩|⟨_,rfl⟩:=h
  ·exact Sc he h0
  ·exact Vq _
  ·exact Vq _
theorem im {P:Program} {ops:Array Oper} :∀ {rest:List Oper} {t:List D} {s:List Ob} {tr:List Tr} {t':List D} {s':List Ob},Trace P ops rest t s tr t' s'→s.length≤s'.length
 | [],_,_,_,_,_,h=>by obtain ⟨_,_,rfl⟩:=h;exact Vq _
 |o::rest,_,_,_,_,_,h=>by
  obtain ⟨x,xs,rfl,_,_,rfl,PI,h⟩:=h
  exact Nat.le_trans (qV PI) (im h)
theorem lU (acc:List Nat):∀(es:List Edge) (m k:Nat),(es.foldl (fun m e=>match Region.binds .any e with|true=>m|||(1<<<e.on)|||acc.getD e.on 0|false=>m) m).testBit k=true→
  m.testBit k=true∨∃e∈es,Region.binds .any e=true∧(k=e.on∨(acc.getD e.on 0).testBit k=true)
 | [],m,k,h=> .inl h
 |e::es,m,k,h=>by
  rw [List.foldl_cons] at h
  rcases lU acc es _ k h with h|⟨e',he,h1,h2⟩
  ·split at h
   ·rename_i hb
    rw [Nat.testBit_or,Nat.testBit_or,Vp,Vp] at h
    rcases h with (h|h)|h
    ·exact .inl h
    ·refine .inr ⟨e,by simp,hb,.inl ?_⟩
     rw [Nat.one_shiftLeft,Nat.testBit_two_pow] at h
     exact (of_decide_eq_true h).symm
    ·exact .inr ⟨e,by simp,hb,.inr h⟩
   ·exact .inl h
  ·exact .inr ⟨e',by simp [he],h1,h2⟩
def tV (o:Oper) (acc:List Nat):Nat:=o.after.toList.foldl (fun m e=>match Region.binds .any e with|true=>m|||(1<<<e.on)|||acc.getD e.on 0|false=>m) 0
theorem gT:∀(rest:List Oper) (acc:List Nat),(fW rest acc).length=acc.length+rest.length∧(fW rest acc).take acc.length=acc∧
  ∀(j:Nat) (o:Oper),rest[j]? =some o→(fW rest acc)[acc.length+j]? =some (tV o ((fW rest acc).take (acc.length+j)))
 | [],acc=>⟨by simp [fW],by simp [fW],fun j o h=>by simp at h⟩
 |o::rest,acc=>by
  have ih:=gT rest (acc++ [tV o acc])
  have hun:fW (o::rest) acc=fW rest (acc++ [tV o acc]):=rfl
  rw [hun]
  obtain ⟨h1,h2,h3⟩:=ih
  have TE:(fW rest (acc++ [tV o acc])).take acc.length=acc:=by
   have:=congrArg (fun l=>l.take acc.length) h2
   simp only [Vd,VX,List.take_take] at this
   rw [show min acc.length (acc.length+1)=acc.length by omega] at this
   rw [this]
   simp
  refine ⟨by rw [h1];simp;omega,TE,fun j q hq=> ?_⟩
  cases j with
  |zero=>
   simp at hq
   subst hq
   rw [Nat.add_zero,TE]
   have:=congrArg (fun l=>l[acc.length]?) h2
   simp only [Vd,VX,WJ] at this
   rw [if_pos (by omega)] at this
   rw [this]
   simp
  |succ j=>
   have:=h3 j q (by simpa using hq)
   simp only [Vd,VX] at this
   rw [show acc.length+1+j=acc.length+(j+1) by omega] at this
   exact this
def zA (ops:Array Oper) (L:Nat→Bool) (j:Nat):Prop:= ∀o,ops[j]? =some o→∀e∈o.after.toList,Region.binds .any e=true→L e.on=true
def closed (ops:Array Oper) (L:Nat→Bool):Prop:= ∀i,L i=true→zA ops L i
theorem reach {ops:Array Oper} {L:Nat→Bool} (hc:closed ops L):∀(n j:Nat),j≤n→zA ops L j→∀k,((fW ops.toList []).getD j 0).testBit k=true→L k=true:=by
 intro n
 induction n with
 |zero=>
  intro j hj hp k hk
  obtain rfl:j=0:=by omega
  cases ho:ops[0]? with
  |none=>
   have hlen:=(gT ops.toList []).1
   have:(fW ops.toList [])[0]? =none:=by
    rw [List.getElem?_eq_none_iff,hlen,Vg,VT,V2]
    exact Array.getElem?_eq_none_iff.1 ho
   rw [Vr,this] at hk
   simp at hk
  |some o=>
   have h:=(gT ops.toList []).2.2 0 o (by rw [VE];exact ho)
   simp only [Vg,VT,List.take_zero] at h
   rw [Vr,h,V9] at hk
   rcases lU _ _ _ _ hk with h0|⟨e,he,h1,h2⟩
   ·simp at h0
   ·rcases h2 with rfl|h2
    ·exact hp o ho e he h1
    ·simp at h2
 |succ n ih=>
  intro j hj hp k hk
  cases ho:ops[j]? with
  |none=>
   have hlen:=(gT ops.toList []).1
   have:(fW ops.toList [])[j]? =none:=by
    rw [List.getElem?_eq_none_iff,hlen,Vg,VT,V2]
    exact Array.getElem?_eq_none_iff.1 ho
   rw [Vr,this] at hk
   simp at hk
  |some o=>
   have h:=(gT ops.toList []).2.2 j o (by rw [VE];exact ho)
   simp only [Vg,VT] at h
   rw [Vr,h,V9] at hk
   rcases lU _ _ _ _ hk with h0|⟨e,he,h1,h2⟩
   ·simp at h0
   ·have hL:=hp o ho e he h1
    rcases h2 with rfl|h2
    ·exact hL
    ·rw [Vr,WJ] at h2
     split at h2
     ·rename_i OK
      refine ih e.on (by omega) (hc _ hL) k ?_
      rw [Vr]
      exact h2
     ·simp at h2
section
variable (tr:List Tr) (t0:List D) (σ0:Nat→Ob)
def cM (x:Tr) (id:Nat):Prop:=match x.e with
  |some (.dE i _ _ _)=>id=i
  |some (.new _ _)=>id=x.s.length
  |some (.all _ _)=>id∉x.k
  |_=>False
def eE (L:Nat→Bool):Nat→List D
  |0=>t0
  |k+1=>match L k,tr[k]? with
    |true,some x=>put (eE L k) x.o.dst x.val
    |_,_=>eE L k
def cb (L:Nat→Bool):Nat→Nat→Ob
  |0=>σ0
  |k+1=>match L k,tr[k]? with
    |true,some x=>match x.e with
      |some (.dE i _ o' _)=>dE (cb L k) i o'
      |some (.new o' _)=>dE (cb L k) x.s.length o'
      |some (.all s' _)=>fun id=>if id∈x.k then cb L k id else bq s' id
      |_=>cb L k
    |_,_=>cb L k
theorem gG {t:List D} {dst:Option Nat} {d:D} {i:Nat} (h:dst≠some i):(put t dst d)[i]? =t[i]? :=by
 cases dst with
 |none=>rfl
 |some j=>exact Wi (fun e=>h (by rw [e]))
theorem xv (t:List D) (dst:Option Nat) (d:D):(put t dst d).length=t.length:=by cases dst<;>simp [put]
theorem fr (L:Nat→Bool):∀k,(eE tr t0 L k).length=t0.length
 |0=>rfl
 |k+1=>by
  unfold eE
  split
  ·rw [xv,fr L k]
  ·exact fr L k
theorem iU {L L':Nat→Bool} {i:Nat} :∀k,(∀j x,j<k→tr[j]? =some x→x.o.dst=some i→L j=L' j)→(eE tr t0 L k)[i]? =(eE tr t0 L' k)[i]?
 |0,_=>rfl
 |k+1,h=>by
  have ih:=iU (L:=L) (L':=L') (i:=i) k (fun j x hj=>h j x (by omega))
  have hlen:(eE tr t0 L k).length=(eE tr t0 L' k).length:=by rw [fr,fr]
  unfold eE
  cases hx:tr[k]? with
  |none=>cases L k<;>cases L' k<;>exact ih
  |some x=>
   by_cases hd:x.o.dst=some i
   ·rw [h k x (by omega) hx hd]
    cases L' k
    ·exact ih
    ·simp only [hd,put,List.getElem?_set,hlen,if_true]
   ·cases L k<;>cases L' k<;>simp only []<;>first|exact ih|(rw [gG hd];exact ih)|(rw [gG hd,gG hd];exact ih)
theorem l3 {L:Nat→Bool} {i:Nat} (m:Nat):∀k,m≤k→(∀j x,m≤j→j<k→tr[j]? =some x→x.o.dst=some i→L j=false)→(eE tr t0 L k)[i]? =(eE tr t0 L m)[i]?
 |0,hm,_=>by
  have e:m=0:=by omega
  subst e
  rfl
 |k+1,hm,h=>by
  by_cases e:m=k+1
  ·subst e;rfl
  ·have ih:=l3 m k (by omega) (fun j x h1 h2=>h j x h1 (by omega))
   conv=>lhs;unfold eE
   cases hx:tr[k]? with
   |none=>cases L k<;>exact ih
   |some x=>
    by_cases hd:x.o.dst=some i
    ·rw [h k x (by omega) (by omega) hx hd];exact ih
    ·cases L k
     ·exact ih
     ·simp only [];rw [gG hd];exact ih
theorem gS {L L':Nat→Bool} {id:Nat} :∀k,(∀j x,j<k→tr[j]? =some x→cM x id→L j=L' j)→cb tr σ0 L k id=cb tr σ0 L' k id
 |0,_=>rfl
 |k+1,h=>by
  have ih:=gS (L:=L) (L':=L') (id:=id) k (fun j x hj=>h j x (by omega))
  unfold cb
  cases hx:tr[k]? with
  |none=>cases L k<;>cases L' k<;>exact ih
  |some x=>
   have hk:=h k x (by omega) hx
   unfold cM at hk
   cases he:x.e with
   |none=>cases L k<;>cases L' k<;>simp only [he]<;>exact ih
   |some e=>
    rw [he] at hk
    cases e with
    |pure d=>cases L k<;>cases L' k<;>simp only [he]<;>exact ih
    |read i o d=>cases L k<;>cases L' k<;>simp only [he]<;>exact ih
    |gm i j d=>cases L k<;>cases L' k<;>simp only [he]<;>exact ih
    |dE i o o' d=>
     by_cases e1:id=i
     ·rw [hk e1];cases L' k<;>simp only [he,dE,e1,if_true]<;>(try exact e1▸ih)
     ·cases L k<;>cases L' k<;>simp only [he,dE,e1,if_false]<;>exact ih
    |new o' mk=>
     by_cases e1:id=x.s.length
     ·rw [hk e1];cases L' k<;>simp only [he,dE,e1,if_true]<;>(try exact e1▸ih)
     ·cases L k<;>cases L' k<;>simp only [he,dE,e1,if_false]<;>exact ih
    |all s' d=>
     by_cases e1:id∈x.k
     ·cases L k<;>cases L' k<;>simp only [he,e1,if_true]<;>exact ih
     ·rw [hk e1];cases L' k<;>simp only [he,e1,if_false];exact ih
theorem iC {L:Nat→Bool} {id:Nat} (m:Nat):∀k,m≤k→(∀j x,m≤j→j<k→tr[j]? =some x→cM x id→L j=false)→cb tr σ0 L k id=cb tr σ0 L m id
 |0,hm,_=>by
  have e:m=0:=by omega
  subst e
  rfl
 |k+1,hm,h=>by
  by_cases e:m=k+1
  ·subst e;rfl
  ·have ih:=iC m k (by omega) (fun j x h1 h2=>h j x h1 (by omega))
   conv=>lhs;unfold cb
   cases hx:tr[k]? with
   |none=>cases L k<;>exact ih
   |some x=>
    have hk:=h k x (by omega) (by omega) hx
    unfold cM at hk
    cases hL:L k with
    |false=>exact ih
    |true=>
     rw [hL] at hk
     simp only []
     cases he:x.e with
     |none=>exact ih
     |some e=>
      rw [he] at hk
      cases e with
      |pure d=>exact ih
      |read i o d=>exact ih
      |gm i j d=>exact ih
      |dE i o o' d=>
       by_cases e1:id=i
       ·exact absurd (hk e1) (by simp)
       ·simp only [dE,e1,if_false];exact ih
      |new o' mk=>
       by_cases e1:id=x.s.length
       ·exact absurd (hk e1) (by simp)
       ·simp only [dE,e1,if_false];exact ih
      |all s' d=>
       by_cases e1:id∈x.k
       ·simp only [e1,if_true];exact ih
       ·exact absurd (hk e1) (by simp)
end
theorem p9 {P:Program} {ops:Array Oper} :∀ {rest:List Oper} {t:List D} {s:List Ob} {tr:List Tr} {t':List D} {s':List Ob},Trace P ops rest t s tr t' s'→
  (∀(i:Nat) (x:Tr),tr[i]? =some x→eE tr t (fun _=>true) i=x.t∧cb tr (bq s) (fun _=>true) i=bq x.s∧s.length≤x.s.length∧x.dQ.length≤s'.length∧
   (∀(j:Nat) (y:Tr),j<i→tr[j]? =some y→y.dQ.length≤x.s.length)∧(∀id,s.length≤id→id<x.s.length→∃j y,j<i∧tr[j]? =some y∧y.s.length≤id∧id<y.dQ.length))∧
  eE tr t (fun _=>true) tr.length=t'∧cb tr (bq s) (fun _=>true) tr.length=bq s'
 | [],t,s,tr,t',s',h=>by
  obtain ⟨rfl,rfl,rfl⟩:=h
  exact ⟨fun i x hx=>by simp at hx,rfl,rfl⟩
 |o::rest,t,s,tr,t',s',h=>by
  obtain ⟨x,xs,rfl,rfl,rfl,rfl,PI,h⟩:=h
  obtain ⟨ih,ih1,ih2⟩:=p9 h
  have UP:=qV PI
  have Rv:∀k,eE (x::xs) x.t (fun _=>true) (k+1)=eE xs x.zK (fun _=>true) k:=by
   intro k
   induction k with
   |zero=>rfl
   |succ k ihk=>
    conv=>lhs;unfold eE
    conv=>rhs;unfold eE
    simp only [V8]
    cases xs[k]? with
    |none=>exact ihk
    |some y=>simp only [];rw [ihk]
  have QI:cb (x::xs) (bq x.s) (fun _=>true) 1=bq x.dQ:=by
   unfold cb cb
   simp only [List.getElem?_cons_zero]
   unfold Tr.dQ
   cases he:x.e with
   |none=>rfl
   |some e=>
    cases e with
    |pure d=>rfl
    |read i o d=>rfl
    |gm i j d=>rfl
    |dE i ob Rf d=>
     have:i<x.s.length:=by
      replace PI:=PI.1
      unfold Tr.FD at PI
      rw [he] at PI
      split at PI
      ·obtain ⟨e0,h0,h1⟩:=PI;cases h0;exact h1.1.2
      ·obtain ⟨b,_,⟨_,e0,h0,h1⟩|⟨_,h0⟩⟩|⟨_,h0⟩:=PI
       ·cases h0;exact h1.1.2
       ·cases h0
       ·cases h0
     simp only []
     rw [kg this]
    |new ob mk=>simp only [];rw [mT]
    |all s2 d=>
     have hk:=PI.2
     unfold Tr.Js at hk
     rw [he] at hk
     simp only []
     funext id
     by_cases e1:id∈x.k
     ·rw [if_pos e1];exact (hk.1 id e1).2
     ·rw [if_neg e1]
  have Rn:∀k,cb (x::xs) (bq x.s) (fun _=>true) (k+1)=cb xs (bq x.dQ) (fun _=>true) k:=by
   intro k
   induction k with
   |zero=>exact QI
   |succ k ihk=>
    conv=>lhs;unfold cb
    conv=>rhs;unfold cb
    simp only [V8]
    cases xs[k]? with
    |none=>exact ihk
    |some y=>simp only [];rw [ihk]
  refine ⟨fun i y hy=> ?_,by rw [Vf,Rv];exact ih1,by rw [Vf,Rn];exact ih2⟩
  cases i with
  |zero=>
   simp at hy
   subst hy
   exact ⟨rfl,rfl,Vq _,im h,fun j y hj=>by omega,fun id h1 h2=>by omega⟩
  |succ i=>
   obtain ⟨a1,a2,a3,a4,a5,a6⟩:=ih i y (by simpa using hy)
   refine ⟨by rw [Rv];exact a1,by rw [Rn];exact a2,by omega,a4,?_,?_⟩
   ·intro j z hj hz
    cases j with
    |zero=>simp at hz;subst hz;exact a3
    |succ j=>exact a5 j z (by omega) (by simpa using hz)
   ·intro id h1 h2
    rcases VA id x.dQ.length with q|q
    ·exact ⟨0,x,by omega,rfl,h1,q⟩
    ·obtain ⟨j,z,b1,b2,b3,b4⟩:=a6 id q h2
     exact ⟨j+1,z,by omega,by simpa using b2,b3,b4⟩
theorem p8 {ops:Array Oper} {tr:List Tr} (h:l0 ops ((tr.map Tr.fp).reverse++ [])=true):
  tr.length=ops.size∧(∀(j:Nat) (o:Oper),ops[j]? =some o→∀e∈o.after.toList,Region.binds .any e=true→e.on<j)∧
  ∀(i j:Nat) (x y:Tr) (ox oy:Oper),i<j→tr[i]? =some x→tr[j]? =some y→ops[i]? =some ox→ops[j]? =some oy→((fW ops.toList []).getD j 0).testBit i=true∨(share ops ox oy=false∧fB x.fp y.fp=false):=by
 unfold l0 at h
 simp only [List.append_nil,List.reverse_reverse,List.length_map,V2,Vi,VJ,List.all_eq_true,List.mem_range] at h
 obtain ⟨hl,h⟩:=h
 refine ⟨hl,?_,?_⟩
 ·intro j o ho e he hb
  have hj:j<ops.size:=by
   rcases VA j ops.size with q|q
   ·exact q
   ·simp [VV q] at ho
  have:=(h j hj).1
  rw [VE,ho] at this
  simp only [Array.all_eq_true_iff_forall_mem] at this
  have h1:=this e (by simpa using he)
  rw [hb] at h1
  simp only [Bool.not_true,Bool.false_or] at h1
  exact Nat.lt_of_succ_le (by simpa [Nat.blt,Wg] using h1)
 ·intro i j x y ox oy hij hx hy hox U5
  have hj:j<ops.size:=by
   rcases VA j ops.size with q|q
   ·exact q
   ·simp [VV q] at U5
  have:=(h j hj).2 i hij
  rw [VE,VE,hox,U5] at this
  simp only [Vr,List.getElem?_map,hx,hy,Wv,V9,Vp,Vi,Vm] at this
  rw [Vr]
  exact this
theorem kU {i:Nat} :∀ {l:List Nat},gW i l=true↔i∈l
 | []=>by simp [gW]
 |a::r=>by
  unfold gW
  split
  ·rename_i h;rw [VJ] at h;subst h;simp
  ·rename_i h
   rw [kU]
   have:a≠i:=fun e=>by subst e;simp at h
   simp [Ne.symm this]
theorem vF {i j:Nat} :∀ {l:List (Nat×Nat)},xL i j l=true↔(i,j)∈l
 | []=>by simp [xL]
 |(a,b)::r=>by
  unfold xL
  split
  ·rename_i h1 h2
   rw [VJ] at h1 h2
   subst h1 h2
   simp
  ·rename_i h
   rw [vF,V6]
   refine ⟨.inr,fun q=> ?_⟩
   rcases q with e|q
   ·cases e
    exact (h (Nat.beq_refl i) (Nat.beq_refl j)).elim
   ·exact q
theorem gh {z:Tr} {id:Nat} (h:cM z id):z.fp= .wr id∨z.fp= .nw id∨∃l kc,z.fp= .all l kc∧id∉l:=by
 unfold cM at h
 unfold Tr.fp
 cases he:z.e with
 |none=>rw [he] at h;exact h.elim
 |some e=>
  rw [he] at h
  cases e with
  |pure d=>exact h.elim
  |read i o d=>exact h.elim
  |gm i j d=>exact h.elim
  |dE i o o' d=>subst h;exact .inl rfl
  |new o mk=>subst h;exact .inr (.inl rfl)
  |all s d=>exact .inr (.inr ⟨z.k,z.kc,rfl,h⟩)
theorem z6 {z:Tr} {id:Nat} (h1:z.s.length≤id) (h2:id<z.dQ.length):z.fp= .nw id∨∃l kc,z.fp= .all l kc:=by
 unfold Tr.dQ at h2
 unfold Tr.fp
 cases he:z.e with
 |none=>rw [he] at h2;simp at h2;omega
 |some e=>
  rw [he] at h2
  cases e with
  |pure d=>simp at h2;omega
  |read i o d=>simp at h2;omega
  |gm i j d=>simp at h2;omega
  |dE i o o' d=>simp at h2;omega
  |new o mk=>
   simp at h2
   have e:id=z.s.length:=by omega
   subst e
   exact .inl rfl
  |all s d=>exact .inr ⟨_,_,rfl⟩
section
variable {P:Program} {ops:Array Oper} {t0:List D} {s0:List Ob} {tr:List Tr} {tn:List D} {sn:List Ob} {w0:dm} {M0:MM} {df:List Deferred}
structure GC (df:List Deferred) (P:Program) (ops:Array Oper) (t0:List D) (s0:List Ob) (tr:List Tr) (w0:dm) (M0:MM) (L:Nat→Bool) (M:MM) (own:Nat→Option Nat) (w:World) (a:Act):Prop where
  cl:closed ops L
  rel:bu w0 M own (cb tr (bq s0) L ops.size) w
  uz:bT M (eE tr t0 L ops.size) a.tmps
  defers:a.defers=df
  live:∀id,(M.box id≠none∨∃v,M.bl id v≠none)→id<s0.length∨∃(j:Nat) (y:Tr),L j=true∧tr[j]? =some y∧y.s.length≤id∧id<y.dQ.length
  le:M0.Le M
def hZ (L:Nat→Bool) (i:Nat):Nat→Bool:=fun j=>if j=i then true else L j
theorem AD (RF:Trace P ops ops.toList t0 s0 tr tn sn) (hd:l0 ops ((tr.map Tr.fp).reverse++ [])=true) {L:Nat→Bool} {M:MM} {own:Nat→Option Nat} {w:World} {a:Act} (inv:GC df P ops t0 s0 tr w0 M0 L M own w a)
  {i:Nat} {x:Tr} (hx:tr[i]? =some x) (SC:L i=false) (hp:zA ops L i) {Q:Exit→Act→World→Prop} {K:Act→World→Prop}
  (hK:∀M' OH w' a',GC df P ops t0 s0 tr w0 M0 (hZ L i) M' OH w' a'→K a' w'):∀rr,wpOpIn (FW rr) 0 P ops Q i K a w:=by
 intro rr
 obtain ⟨hlen,hedge,hpair⟩:=p8 hd
 obtain ⟨PM,_,_⟩:=p9 RF
 obtain ⟨PX,PI⟩:=mc RF i x hx
 have Rg:ops[i]? =some x.o:=by rw [← VE];exact PX
 have Qe:∀ {j:Nat} {y:Tr},tr[j]? =some y→ops[j]? =some y.o:=fun {j y} hy=>by rw [← VE];exact (mc RF j y hy).1
 have O3:i<ops.size:=by
  rcases VA i ops.size with q|q
  ·exact q
  ·simp [VV q] at Rg
 obtain ⟨aT,aS,a3,a4,a5,a6⟩:=PM i x hx
 have before:∀ {j:Nat} {y:Tr},j<i→tr[j]? =some y→(share ops y.o x.o=true∨fB y.fp x.fp=true)→L j=true:=by
  intro j y hj hy hc
  rcases hpair j i y x _ _ hj hy hx (Qe hy) Rg with h|⟨h1,h2⟩
  ·exact reach inv.cl i i (Vq _) hp j h
  ·rcases hc with hc|hc
   ·rw [h1] at hc;cases hc
   ·rw [h2] at hc;cases hc
 have after:∀ {j:Nat} {y:Tr},i<j→tr[j]? =some y→(share ops x.o y.o=true∨fB x.fp y.fp=true)→L j=false:=by
  intro j y hj hy hc
  rcases hpair i j x y _ _ hj hx hy Rg (Qe hy) with h|⟨h1,h2⟩
  ·cases e:L j with
   |false=>rfl
   |true=>
    have:=reach inv.cl j j (Vq _) (inv.cl j e) i h
    rw [SC] at this;cases this
  ·rcases hc with hc|hc
   ·rw [h1] at hc;cases hc
   ·rw [h2] at hc;cases hc
 have Qi:∀ {f g:FP} {id:Nat},(f= .wr id∨f= .nw id∨∃l kc,f= .all l kc∧id∉l)→(g= .rd id∨g= .wr id∨g= .nw id∨∃l kc,g= .all l kc)→fB f g=true:=by
  intro f g id h1 h2
  rcases h1 with rfl|rfl|⟨l,kc,rfl,hl⟩<;>rcases h2 with rfl|rfl|rfl|⟨l',kc',rfl⟩<;>simp [fB]
  cases e:gW id l
  ·rfl
  ·exact absurd (kU.1 e) hl
 have Qy:∀ {f g:FP} {id:Nat},(f= .rd id∨f= .wr id∨f= .nw id∨∃l kc,f= .all l kc)→(g= .wr id∨g= .nw id∨∃l kc,g= .all l kc∧id∉l)→fB f g=true:=by
  intro f g id h1 h2
  rcases h1 with rfl|rfl|rfl|⟨l',kc',rfl⟩<;>rcases h2 with rfl|rfl|⟨l,kc,rfl,hl⟩<;>simp [fB]
  cases e:gW id l
  ·rfl
  ·exact absurd (kU.1 e) hl
 have F1:∀y,y∈pF ops x.o→(eE tr t0 L ops.size)[y]? =x.t[y]? :=by
  intro y hy
  rw [l3 tr t0 (L:=L) (i:=y) i ops.size (by omega) (fun j z h1 h2 hz Qk=>by
   rcases Nat.lt_or_eq_of_le h1 with h|h
   ·refine after h hz (.inl ?_)
    unfold share
    rw [Qk]
    simp only [Vp]
    right
    simpa using hy
   ·rw [← h];exact SC)]
  rw [iU tr t0 (L:=L) (L':=fun _=>true) (i:=y) i (fun j z hj hz Qk=>by
   refine before hj hz (.inl ?_)
   unfold share
   rw [Qk]
   simp only [Vp]
   left;left
   simpa using hy),aT]
 have QB:∀y∈x.o.op.operands,bB (eE tr t0 L ops.size) y=bB x.t y:=by
  intro y hy
  cases y with
  |tmp k=>
   have:k∈pF ops x.o:=by
    unfold pF Cw
    refine List.mem_append.2 (.inl (List.mem_filterMap.2 ⟨.tmp k,by simpa using hy,rfl⟩))
   show List.getD _ _ _=List.getD _ _ _
   rw [Vr,Vr,F1 k this]
  |const v=>rfl
  |global g=>rfl
  |func f=>rfl
 have OP:∀y∈x.o.op.operands,bo M (bB x.t y) (a.eval y):=fun y hy=>by rw [← QB y hy];exact mj inv.uz y
 have F2:∀id,(x.fp= .rd id∨x.fp= .wr id∨x.fp= .nw id∨∃l kc,x.fp= .all l kc)→cb tr (bq s0) L ops.size id=bq x.s id:=by
  intro id Qt
  rw [iC tr (bq s0) (L:=L) (id:=id) i ops.size (by omega) (fun j z h1 h2 hz ht=>by
   rcases Nat.lt_or_eq_of_le h1 with h|h
   ·exact after h hz (.inr (Qy Qt (gh ht)))
   ·rw [← h];exact SC)]
  rw [gS tr (bq s0) (L:=L) (L':=fun _=>true) (id:=id) i (fun j z hj hz ht=>before hj hz (.inr (Qi (gh ht) Qt))),aS]
 have order:∀ {id a b:Nat} {y z:Tr},a<b→tr[a]? =some y→tr[b]? =some z→cM y id→cM z id→L b=true→L a=true:=by
  intro id a b y z U7 hy hz ty tz hLb
  have hc:fB y.fp z.fp=true:=Qi (gh ty) (by
   rcases gh tz with q|q|⟨l,kc,q,_⟩
   ·exact .inr (.inl q)
   ·exact .inr (.inr (.inl q))
   ·exact .inr (.inr (.inr ⟨l,kc,q⟩)))
  rcases hpair a b y z _ _ U7 hy hz (Qe hy) (Qe hz) with h|⟨_,h2⟩
  ·exact reach inv.cl b b (Vq _) (inv.cl b hLb) a h
  ·rw [h2] at hc;cases hc
 have F3:∀id j,x.fp= .qz id j→eZ (cb tr (bq s0) L ops.size id) j=eZ (bq x.s id) j:=by
  intro id j Qt
  obtain ⟨m,hm1,TG⟩:∃m,(∀k y,m≤k→tr[k]? =some y→cM y id→L k=false)∧∀k y,k<m→tr[k]? =some y→cM y id→L k=true:=by
   have key:∀n,(∀k y,n≤k→tr[k]? =some y→cM y id→L k=false)→∃m,(∀k y,m≤k→tr[k]? =some y→cM y id→L k=false)∧∀k y,k<m→tr[k]? =some y→cM y id→L k=true:=by
    intro n
    induction n with
    |zero=>exact fun h=>⟨0,h,fun k y hk=>by omega⟩
    |succ n ih=>
     intro h
     by_cases hn:∃y,tr[n]? =some y∧cM y id∧L n=true
     ·obtain ⟨y,hy,ty,hLn⟩:=hn
      refine ⟨n+1,h,fun k z hk hz tz=> ?_⟩
      rcases Nat.lt_or_eq_of_le (Nat.le_of_lt_succ hk) with q|q
      ·exact order q hz hy tz ty hLn
      ·subst q;exact hLn
     ·refine ih fun k y hk hy ty=> ?_
      rcases Nat.lt_or_eq_of_le hk with q|q
      ·exact h k y q hy ty
      ·subst q
       cases e:L n with
       |false=>rfl
       |true=>exact absurd ⟨y,hy,ty,e⟩ hn
   exact key tr.length fun k y hk hy=>by rw [Vw hk] at hy;cases hy
  have still:∀k y,tr[k]? =some y→((m≤k∧k<i)∨(i≤k∧k<m))→eZ (cb tr (bq s0) (fun _=>true) (k+1) id) j=eZ (cb tr (bq s0) (fun _=>true) k id) j:=by
   intro k y hy hk
   by_cases ty:cM y id
   ·have Su:fB y.fp x.fp=false∧fB x.fp y.fp=false:=by
     rcases hk with ⟨h1,h2⟩|⟨h1,h2⟩
     ·have hL:=hm1 k y h1 hy ty
      have:fB y.fp x.fp=false:=by
       cases e:fB y.fp x.fp with
       |false=>rfl
       |true=>rw [before h2 hy (.inr e)] at hL;cases hL
      refine ⟨this,?_⟩
      rw [Qt] at this ⊢
      rcases gh ty with q|q|⟨l,kc,q,_⟩
      ·rw [q,show fB (.wr id) (.qz id j)=true from Nat.beq_refl id] at this;cases this
      ·rw [q,show fB (.nw id) (.qz id j)=true from Nat.beq_refl id] at this;cases this
      ·rw [q] at this ⊢;exact this
     ·have hL:=TG k y h2 hy ty
      have O0:i≠k:=fun e=>by subst e;rw [SC] at hL;cases hL
      have:fB x.fp y.fp=false:=by
       cases e:fB x.fp y.fp with
       |false=>rfl
       |true=>rw [after (by omega) hy (.inr e)] at hL;cases hL
      refine ⟨?_,this⟩
      rw [Qt] at this ⊢
      rcases gh ty with q|q|⟨l,kc,q,_⟩
      ·rw [q,show fB (.qz id j) (.wr id)=true from Nat.beq_refl id] at this;cases this
      ·rw [q,show fB (.qz id j) (.nw id)=true from Nat.beq_refl id] at this;cases this
      ·rw [q] at this ⊢;exact this
    have hc:=Su.2
    rw [Qt] at hc
    rcases gh ty with q|q|⟨l,kc,q,hl⟩
    ·rw [q,show fB (.qz id j) (.wr id)=true from Nat.beq_refl id] at hc;cases hc
    ·rw [q,show fB (.qz id j) (.nw id)=true from Nat.beq_refl id] at hc;cases hc
    ·rw [q] at hc
     have Q1:(id,j)∈kc:=by
      cases e:xL id j kc with
      |true=>exact vF.1 e
      |false=>
       have e2:gW id l=false:=by
        cases e3:gW id l with
        |false=>rfl
        |true=>exact absurd (kU.1 e3) hl
       simp [fB,e,e2] at hc
     obtain ⟨_,hoky⟩:=mc RF k y hy
     obtain ⟨_,yS,_,_,_,_⟩:=PM k y hy
     have RU:=hoky.2
     unfold Tr.fp at q
     unfold Tr.Js at RU
     cases he:y.e with
     |none=>rw [he] at q;cases q
     |some e=>
      rw [he] at q RU
      cases e with
      |all s' d=>
       simp only at q RU
       cases q
       have PS:=RU.2 id j Q1
       have e1:cb tr (bq s0) (fun _=>true) (k+1) id=bq s' id:=by
        conv=>lhs;unfold cb
        simp only [hy,he,if_neg hl]
       rw [e1,yS]
       exact PS.symm
      |_=>cases q
   ·have e1:cb tr (bq s0) (fun _=>true) (k+1) id=cb tr (bq s0) (fun _=>true) k id:=
     iC tr (bq s0) (L:=fun _=>true) (id:=id) k (k+1) (by omega) (fun j' z h1 h2 hz tz=>by
      obtain rfl:j'=k:=by omega
      rw [hy] at hz
      obtain rfl:=Vk hz
      exact absurd tz ty)
    rw [e1]
  have walk:∀n a,(∀k,a≤k→k<a+n→(m≤k∧k<i)∨(i≤k∧k<m))→a+n≤tr.length→eZ (cb tr (bq s0) (fun _=>true) (a+n) id) j=eZ (cb tr (bq s0) (fun _=>true) a id) j:=by
   intro n
   induction n with
   |zero=>intro a _ _;rfl
   |succ n ih=>
    intro a h hl
    rw [← Nat.add_assoc,still (a+n) _ (List.getElem?_eq_getElem (by omega)) (h (a+n) (by omega) (by omega))]
    exact ih a (fun k h1 h2=>h k h1 (by omega)) (by omega)
  have z5:i<tr.length:=by
   rcases VA i tr.length with q|q
   ·exact q
   ·rw [Vw q] at hx;cases hx
  have TU:cb tr (bq s0) L ops.size id=cb tr (bq s0) (fun _=>true) (min m tr.length) id:=by
   rw [iC tr (bq s0) (L:=L) (id:=id) (min m tr.length) ops.size (by rw [← hlen];exact Nat.min_le_right ..) (fun k y h1 h2 hy ty=>by
    rcases VA k tr.length with q|q
    ·exact hm1 k y (by omega) hy ty
    ·rw [Vw q] at hy;cases hy)]
   exact gS tr (bq s0) (L:=L) (L':=fun _=>true) (id:=id) _ (fun k y hk hy ty=>TG k y (by omega) hy ty)
  rw [TU,← aS]
  rcases Nat.le_total (min m tr.length) i with q|q
  ·have:=walk (i - min m tr.length) (min m tr.length) (fun k h1 h2=> .inl ⟨by omega,by omega⟩) (by omega)
   rw [show min m tr.length+(i - min m tr.length)=i by omega] at this
   exact this.symm
  ·have:=walk (min m tr.length - i) i (fun k h1 h2=> .inr ⟨by omega,by omega⟩) (by omega)
   rw [show i+(min m tr.length - i)=min m tr.length by omega] at this
   exact this
 have QJ:∀ {j:Nat},j≠i→hZ L i j=L j:=fun {j} h=>by simp [hZ,h]
 have Qb:hZ L i i=true:=by simp [hZ]
 have Pz:closed ops (hZ L i):=by
  intro j hj o ho e he hb
  by_cases e1:j=i
  ·subst e1
   by_cases e2:e.on=j
   ·rw [e2];exact Qb
   ·rw [QJ e2];exact hp o ho e he hb
  ·rw [QJ e1] at hj
   by_cases e2:e.on=i
   ·rw [e2];exact Qb
   ·rw [QJ e2];exact inv.cl j hj o ho e he hb
 have PR:∀ {M':MM} {v:Value},M.Le M'→bo M' x.val v→bT M' (eE tr t0 (hZ L i) ops.size) (a.put x.o.dst v).tmps:=by
  intro M' v le hv
  have hl:=inv.uz.1
  rw [fr] at hl
  refine ⟨by rw [fr];cases x.o.dst<;>simp [Act.put,hl],fun y d u h1 h2=> ?_⟩
  by_cases e:x.o.dst=some y
  ·rw [l3 tr t0 (L:=hZ L i) (i:=y) (i+1) ops.size (by omega) (fun j z q1 q2 hz Qk=>by
    rw [QJ (by omega)]
    refine after (by omega) hz (.inl ?_)
    unfold share
    rw [e]
    simp only [Vp]
    left;right
    simp [Qk])] at h1
   unfold eE at h1
   simp only [Qb,hx,e,put] at h1
   rw [List.getElem?_set] at h1
   simp only [if_true] at h1
   split at h1
   ·obtain rfl:=Vk h1
    simp only [e,Act.put] at h2
    rw [Array.getElem?_setIfInBounds] at h2
    simp only [if_true] at h2
    split at h2
    ·obtain rfl:=Vk h2;exact hv
    ·cases h2
   ·cases h1
  ·rw [iU tr t0 (L:=hZ L i) (L':=L) (i:=y) ops.size (fun j z hj hz Qk=>QJ (fun q=>by subst q;rw [hx] at hz;obtain rfl:=Vk hz;exact e Qk))] at h1
   have TE:a.tmps[y]? =some u:=by
    cases Qk:x.o.dst with
    |none=>rw [Qk] at h2;exact h2
    |some k=>
     rw [Qk] at h2
     simp only [Act.put] at h2
     rw [V4 (fun q=>e (by rw [Qk,q]))] at h2
     exact h2
   exact (inv.uz.2 y d u h1 TE).mono le
 have Pn:∀id,¬cM x id→cb tr (bq s0) (hZ L i) ops.size id=cb tr (bq s0) L ops.size id:=fun id h=>
  gS tr (bq s0) ops.size (fun j z hj hz ht=>QJ (fun q=>by subst q;rw [hx] at hz;obtain rfl:=Vk hz;exact h ht))
 have Pe:∀id,cM x id→cb tr (bq s0) (hZ L i) ops.size id=cb tr (bq s0) (hZ L i) (i+1) id:=fun id h=>
  iC tr (bq s0) (i+1) ops.size (by omega) (fun j z q1 q2 hz ht=>by
   rw [QJ (by omega)]
   refine after (by omega) hz (.inr (Qy ?_ (gh ht)))
   rcases gh h with q|q|⟨l,kc,q,_⟩
   ·exact .inr (.inl q)
   ·exact .inr (.inr (.inl q))
   ·exact .inr (.inr (.inr ⟨l,kc,q⟩)))
 have PK:∀id,(M.box id≠none∨∃v,M.bl id v≠none)→id<s0.length∨∃(j:Nat) (y:Tr),hZ L i j=true∧tr[j]? =some y∧y.s.length≤id∧id<y.dQ.length:=by
  intro id h
  rcases inv.live id h with q|⟨j,y,q1,q2,q3,q4⟩
  ·exact .inl q
  ·exact .inr ⟨j,y,by by_cases e:j=i<;>simp [hZ,e,q1],q2,q3,q4⟩
 have Q3:∀id,(x.fp= .wr id∨∃l kc,x.fp= .all l kc)→id<x.s.length→id<s0.length∨∃(j:Nat) (y:Tr),hZ L i j=true∧tr[j]? =some y∧y.s.length≤id∧id<y.dQ.length:=by
  intro id Qt O8
  rcases VA id s0.length with q|q
  ·exact .inl q
  ·obtain ⟨j,y,b1,b2,b3,b4⟩:=a6 id q O8
   refine .inr ⟨j,y,?_,b2,b3,b4⟩
   rw [QJ (by omega)]
   refine before b1 b2 (.inr ?_)
   rcases z6 b3 b4 with h|⟨l,kc,h⟩
   ·refine Qi (id:=id) (.inr (.inl h)) ?_
    rcases Qt with h|h
    ·exact .inr (.inl h)
    ·exact .inr (.inr (.inr h))
   ·rcases Qt with h2|⟨l2,kc2,h2⟩<;>rw [h,h2]<;>rfl
 have Sc:∀ {e0:gZ},x.e=some e0→hJ P x.o (bB x.t) x.s e0→EJ P x.o a w K Q:=by
  intro e0 he h0
  have Pa:x.val=e0.val x.s.length:=by unfold Tr.val;rw [he]
  cases e0 with
  |pure d=>
   have Sm:∀id,¬cM x id:=fun id h=>by unfold cM at h;rw [he] at h;exact h
   refine h0 w0 M own _ w a x.s.length inv.rel OP trivial K Q fun v M' OH w' le ad P2 hr=>hK M' OH w' _ ⟨Pz,?_,PR le (by rw [Pa];exact hr),by rw [dg];exact inv.defers,?_,inv.le.trans le⟩
   ·rw [show cb tr (bq s0) (hZ L i) ops.size=cb tr (bq s0) L ops.size from funext fun id=>Pn id (Sm id)];exact P2
   ·intro id h;rw [ad.1,ad.2] at h;exact PK id h
  |read k ob d=>
   have Sm:∀id,¬cM x id:=fun id h=>by unfold cM at h;rw [he] at h;exact h
   have Qt:x.fp= .rd k:=by unfold Tr.fp;rw [he]
   refine h0.2 w0 M own _ w a x.s.length inv.rel OP (by show cb _ _ _ _ k=ob;rw [F2 k (.inl Qt)];exact h0.1.1) K Q fun v M' OH w' le ad P2 hr=>hK M' OH w' _ ⟨Pz,?_,PR le (by rw [Pa];exact hr),by rw [dg];exact inv.defers,?_,inv.le.trans le⟩
   ·rw [show cb tr (bq s0) (hZ L i) ops.size=cb tr (bq s0) L ops.size from funext fun id=>Pn id (Sm id)];exact P2
   ·intro id h;rw [ad.1,ad.2] at h;exact PK id h
  |gm k jc d=>
   have Sm:∀id,¬cM x id:=fun id h=>by unfold cM at h;rw [he] at h;exact h
   have Qt:x.fp= .qz k jc:=by unfold Tr.fp;rw [he]
   refine h0.2 w0 M own _ w a x.s.length inv.rel OP (by show eZ (cb _ _ _ _ k) jc=some d;rw [F3 k jc Qt];exact h0.1.1) K Q fun v M' OH w' le ad P2 hr=>hK M' OH w' _ ⟨Pz,?_,PR le (by rw [Pa];exact hr),by rw [dg];exact inv.defers,?_,inv.le.trans le⟩
   ·rw [show cb tr (bq s0) (hZ L i) ops.size=cb tr (bq s0) L ops.size from funext fun id=>Pn id (Sm id)];exact P2
   ·intro id h;rw [ad.1,ad.2] at h;exact PK id h
  |dE k ob Rf d=>
   have Qt:x.fp= .wr k:=by unfold Tr.fp;rw [he]
   have TX:cM x k:=by unfold cM;rw [he]
   refine h0.2 w0 M own _ w a x.s.length inv.rel OP (by show cb _ _ _ _ k=ob;rw [F2 k (.inr (.inl Qt))];exact h0.1.1) K Q fun v M' OH w' le ad P2 hr=>hK M' OH w' _ ⟨Pz,?_,PR le (by rw [Pa];exact hr),by rw [dg];exact inv.defers,?_,inv.le.trans le⟩
   ·rw [show cb tr (bq s0) (hZ L i) ops.size=gZ.post (.dE k ob Rf d) (cb tr (bq s0) L ops.size) x.s.length from funext fun id=>by
     by_cases e:id=k
     ·subst e
      rw [Pe id TX]
      unfold cb
      simp only [Qb,hx,he,gZ.post,aV]
     ·rw [Pn id (fun h=>by unfold cM at h;rw [he] at h;exact e h)]
      simp only [gZ.post,aX e]]
    exact P2
   ·intro id h
    by_cases e:id=k
    ·subst e;exact Q3 id (.inl Qt) h0.1.2
    ·rw [ad.1,ad.2 id e] at h;exact PK id h
  |new ob mk=>
   have TX:cM x x.s.length:=by unfold cM;rw [he]
   have Sa:x.dQ.length=x.s.length+1:=by unfold Tr.dQ;rw [he];simp
   have QD:¬(M.box x.s.length≠none∨∃v,M.bl x.s.length v≠none):=by
    intro h
    rcases inv.live _ h with q|⟨j,y,q1,q2,q3,q4⟩
    ·omega
    ·rcases Nat.lt_trichotomy j i with c|c|c
     ·have:=a5 j y c q2;omega
     ·subst c;rw [SC] at q1;cases q1
     ·have:=(PM j y q2).2.2.2.2.1 i x c hx;omega
   have T2:M.box x.s.length=none:=by
    cases e:M.box x.s.length with
    |none=>rfl
    |some b=>exact absurd (.inl (by rw [e];simp)) QD
   have S2:∀v,M.bl x.s.length v=none:=fun v=>by
    cases e:M.bl x.s.length v with
    |none=>rfl
    |some b=>exact absurd (.inr ⟨v,by rw [e];simp⟩) QD
   refine h0 w0 M own _ w a x.s.length inv.rel OP ⟨T2,S2⟩ K Q fun v M' OH w' le ad P2 hr=>hK M' OH w' _ ⟨Pz,?_,PR le (by rw [Pa];exact hr),by rw [dg];exact inv.defers,?_,inv.le.trans le⟩
   ·rw [show cb tr (bq s0) (hZ L i) ops.size=gZ.post (.new ob mk) (cb tr (bq s0) L ops.size) x.s.length from funext fun id=>by
     by_cases e:id=x.s.length
     ·subst e
      rw [Pe _ TX]
      unfold cb
      simp only [Qb,hx,he,gZ.post,aV]
     ·rw [Pn id (fun h=>by unfold cM at h;rw [he] at h;exact e h)]
      simp only [gZ.post,aX e]]
    exact P2
   ·intro id h
    by_cases e:id=x.s.length
    ·exact .inr ⟨i,x,Qb,hx,by omega,by omega⟩
    ·rw [ad.1 id e,ad.2 id e] at h;exact PK id h
  |all s' d=>
   have Qt:x.fp= .all x.k x.kc:=by unfold Tr.fp;rw [he]
   have hta:∀id,id∉x.k→cM x id:=fun id hk=>by unfold cM;rw [he];exact hk
   have P1:∀id∈x.k,id<x.s.length∧x.s.getD id .dead=s'.getD id .dead:=by have:=PI.2;unfold Tr.Js at this;rw [he] at this;exact this.1
   have Sa:x.dQ=s':=by unfold Tr.dQ;rw [he]
   have UE:bu w0 M own (bq x.s) w:=by
    rw [← show cb tr (bq s0) L ops.size=bq x.s from funext fun id=>F2 id (.inr (.inr (.inr ⟨_,_,Qt⟩)))];exact inv.rel
   have PF:∀id,x.s.length≤id→¬(M.box id≠none∨∃v,M.bl id v≠none):=by
    intro id O8 h
    rcases inv.live _ h with q|⟨j,y,q1,q2,q3,q4⟩
    ·omega
    ·have hy:y.fp= .nw id∨∃l kc,y.fp= .all l kc:=z6 q3 q4
     rcases Nat.lt_trichotomy j i with c|c|c
     ·have:=a5 j y c q2;omega
     ·subst c;rw [SC] at q1;cases q1
     ·have:=after c q2 (.inr (by rw [Qt];rcases hy with h|⟨l,kc,h⟩<;>rw [h]<;>rfl))
      rw [q1] at this;cases this
   have PB:M.upto x.s.length:=by
    refine ⟨fun id O8=> ?_,fun id v O8=> ?_⟩
    ·cases e:M.box id with
     |none=>rfl
     |some b=>exact absurd (.inl (by rw [e];simp)) (PF id O8)
    ·cases e:M.bl id v with
     |none=>rfl
     |some b=>exact absurd (.inr ⟨v,by rw [e];simp⟩) (PF id O8)
   refine h0.2 w0 M own w a UE PB OP K Q fun v M' OH w' le up P2 hr=>hK M' OH w' _ ⟨Pz,?_,PR le (by rw [Pa];exact hr),by rw [dg];exact inv.defers,?_,inv.le.trans le⟩
   ·rw [show cb tr (bq s0) (hZ L i) ops.size=bq s' from funext fun id=>by
     by_cases e1:id∈x.k
     ·rw [Pn id (fun h=>by unfold cM at h;rw [he] at h;exact h e1),F2 id (.inr (.inr (.inr ⟨_,_,Qt⟩)))]
      exact (P1 id e1).2
     ·rw [Pe id (hta id e1)]
      unfold cb
      simp only [Qb,hx,he,if_neg e1]]
    exact P2
   ·intro id h
    have OK:id<s'.length:=by
     rcases VA id s'.length with q|q
     ·exact q
     ·rcases h with h|⟨v,h⟩
      ·exact absurd (up.1 id q) h
      ·exact absurd (up.2 id v q) h
    rcases VA id x.s.length with q|q
    ·exact Q3 id (.inr ⟨_,_,Qt⟩) q
    ·exact .inr ⟨i,x,Qb,hx,q,by rw [Sa];exact OK⟩
 unfold wpOpIn
 rw [Rg]
 simp only []
 replace PI:=PI.1
 unfold Tr.FD at PI
 split at PI
 ·rename_i hg
  obtain ⟨e0,he,h0⟩:=PI
  have:Wf x.o (yielded ops a.tmps)=true:=by simp [Wf,hg]
  rw [if_pos this]
  exact Sc he h0 rr
 ·rename_i j want hg
  have Rb:∀k,(ops[j]?).bind (·.dst)=some k→bo M (x.t.getD k .undef) (a.tmps.getD k undef):=by
   intro k hk
   have:k∈pF ops x.o:=by
    unfold pF
    refine List.mem_append.2 (.inr ?_)
    rw [hg]
    cases hq:ops[j]? with
    |none=>rw [hq] at hk;cases hk
    |some q=>
     rw [hq] at hk
     simp only [Wz] at hk
     simp only [hq,hk]
     simp
   have h1:=ic inv.uz k
   rw [Vr,F1 k this,← Vr] at h1
   exact h1
  have skip:x.e=none→Wf x.o (yielded ops a.tmps)=false→(if Wf x.o (yielded ops a.tmps) then x.o.wpIn (FW rr) 0 P a w K Q else (∀f,x.o.about P w a.eval=some f→(FW rr).fn f)∧K (a.put x.o.dst undef) w):=by
   intro he this
   rw [this]
   refine ⟨fun _ _=>trivial,?_⟩
   have Sm:∀id,¬cM x id:=fun id h=>by unfold cM at h;rw [he] at h;exact h
   have Pa:x.val= .aM []:=by unfold Tr.val;rw [he]
   refine hK M own w _ ⟨Pz,?_,PR (.refl M) (by rw [Pa];exact pf),by rw [dg];exact inv.defers,PK,inv.le⟩
   rw [show cb tr (bq s0) (hZ L i) ops.size=cb tr (bq s0) L ops.size from funext fun id=>Pn id (Sm id)]
   exact inv.rel
  rcases PI with ⟨b,hb,Pp⟩|⟨hb,he⟩
  ·have hy:yielded ops a.tmps j=some b:=rq (M:=M) (t:=x.t) Rb hb
   rcases Pp with ⟨rfl,e0,he,h0⟩|⟨O0,he⟩
   ·have:Wf x.o (yielded ops a.tmps)=true:=by simp [Wf,hg,hy]
    rw [if_pos this]
    exact Sc he h0 rr
   ·exact skip he (by simp [Wf,hg,hy,O0])
  ·have hy:yielded ops a.tmps j=none:=nU (M:=M) (t:=x.t) Rb hb
   exact skip he (by simp [Wf,hg,hy])
theorem mW {OM:Array Bool} (hl:OM.size=ops.size) (i:Nat):i∈Region.ready .any ops OM↔i<ops.size∧OM.getD i false=false∧zA ops (fun j=>OM.getD j false) i:=by
 unfold Region.ready
 rw [List.mem_filter,List.mem_range]
 constructor
 ·rintro ⟨h1,h2⟩
  have ho:ops[i]? =some ops[i]:=by simp [h1]
  rw [ho] at h2
  simp only [Wv,V9,Vi,Vm,Array.all_eq_true_iff_forall_mem] at h2
  refine ⟨h1,?_,?_⟩
  ·have:=h2.1
   rw [VR] at this ⊢
   cases e:OM[i]? with
   |none=>rfl
   |some b=>rw [e] at this;exact this
  ·intro o Tl e he hb
   rw [ho] at Tl
   obtain rfl:=Vk Tl
   have:=h2.2 e (by simpa using he)
   rw [hb] at this
   simpa using this
 ·rintro ⟨h1,h2,h3⟩
  refine ⟨h1,?_⟩
  have ho:ops[i]? =some ops[i]:=by simp [h1]
  rw [ho]
  simp only [Wv,V9,Vi,Vm,Array.all_eq_true_iff_forall_mem]
  refine ⟨?_,fun e he=> ?_⟩
  ·rw [VR] at h2 ⊢
   have:OM[i]? =some OM[i]:=by simp [hl,h1]
   rw [this] at h2 ⊢
   exact h2
  ·cases hb:Region.binds .any e with
   |false=>rfl
   |true=>
    have:=h3 _ ho e (by simpa using he) hb
    simpa using this
theorem Ee (RF:Trace P ops ops.toList t0 s0 tr tn sn) (hd:l0 ops ((tr.map Tr.fp).reverse++ [])=true) {Q:Exit→Act→World→Prop}
  (hq:∀M' OH w' a',M0.Le M'→M'.upto sn.length→bu w0 M' OH (bq sn) w'→bT M' tn a'.tmps→a'.defers=df→Q .normal a' w') (rr:Option Nat):
  ∀(fuel:Nat) (OM:Array Bool) (M:MM) (own:Nat→Option Nat) (w:World) (a:Act),OM.size=ops.size→OM.toList.count false≤fuel→GC df P ops t0 s0 tr w0 M0 (fun j=>OM.getD j false) M own w a→wpAnyIn (FW rr) 0 P .any ops Q fuel OM a w:=by
 obtain ⟨hlen,hedge,_⟩:=p8 hd
 obtain ⟨PM,hT,hS⟩:=p9 RF
 have fin:∀ {OM:Array Bool} {M:MM} {own:Nat→Option Nat} {w:World} {a:Act},(∀j,j<ops.size→OM.getD j false=true)→GC df P ops t0 s0 tr w0 M0 (fun j=>OM.getD j false) M own w a→Q .normal a w:=by
  intro OM M own w a QP inv
  have e1:eE tr t0 (fun j=>OM.getD j false) ops.size=tn:=by
   rw [← hT,hlen]
   apply List.ext_getElem?
   intro k
   exact iU tr t0 ops.size (fun j x hj _ _=>QP j hj)
  have e2:cb tr (bq s0) (fun j=>OM.getD j false) ops.size=bq sn:=by
   rw [← hS,hlen]
   funext id
   exact gS tr (bq s0) ops.size (fun j x hj _ _=>QP j hj)
  have PF:∀id,sn.length≤id→¬(M.box id≠none∨∃v,M.bl id v≠none):=by
   intro id O8 h
   rcases inv.live _ h with q|⟨j,y,q1,q2,q3,q4⟩
   ·have:=im RF;omega
   ·have:=(PM j y q2).2.2.2.1;omega
  refine hq M own w a inv.le ⟨fun id O8=> ?_,fun id v O8=> ?_⟩ (e2▸inv.rel) (e1▸inv.uz) inv.defers
  ·cases e:M.box id with
   |none=>rfl
   |some b=>exact absurd (.inl (by rw [e];simp)) (PF id O8)
  ·cases e:M.bl id v with
   |none=>rfl
   |some b=>exact absurd (.inr ⟨v,by rw [e];simp⟩) (PF id O8)
 have nothing:∀ {OM:Array Bool},OM.size=ops.size→Region.ready .any ops OM= []→∀j,j<ops.size→OM.getD j false=true:=by
  intro OM hl hr j
  induction j using Nat.strongRecOn with
  |_ j ih=>
   intro hj
   cases e:OM.getD j false with
   |true=>rfl
   |false=>
    have:j∈Region.ready .any ops OM:=(mW hl j).2 ⟨hj,e,fun o ho ed he hb=>ih ed.on (hedge j o ho ed he hb) (by have:=hedge j o ho ed he hb;omega)⟩
    rw [hr] at this
    cases this
 intro fuel
 induction fuel with
 |zero=>
  intro OM M own w a hl hc inv
  have QP:∀j,j<ops.size→OM.getD j false=true:=by
   intro j hj
   have h0:OM.toList.count false=0:=by omega
   rw [List.count_eq_zero] at h0
   have RY:j<OM.size:=by omega
   rw [VR]
   have:OM[j]? =some OM[j]:=by simp [RY]
   rw [this]
   cases e:OM[j] with
   |true=>simp
   |false=>exact absurd (by rw [← e];simp) h0
  refine ⟨?_,fin QP inv⟩
  apply List.eq_nil_iff_forall_not_mem.2
  intro i hi
  have:=(mW hl i).1 hi
  rw [QP i this.1] at this
  exact absurd this.2.1 (by simp)
 |succ fuel ih=>
  intro OM M own w a hl hc inv
  refine ⟨fun hr=>fin (nothing hl hr) inv,fun i hi=> ?_⟩
  obtain ⟨h1,h2,h3⟩:=(mW hl i).1 hi
  have hx:tr[i]? =some (tr[i]'(by omega)):=by simp [show i<tr.length by omega]
  refine AD RF hd inv hx h2 h3 (fun M' OH w' a' Uh=>ih _ M' OH w' a' (by simp [hl]) ?_ ?_) rr
  ·have OK:i<OM.toList.length:=by simp [hl,h1]
   have PO:OM.toList[i]=false:=by
    rw [VR] at h2
    have:OM[i]? =some OM[i]:=by simp [hl,h1]
    rw [this] at h2
    simpa using h2
   have Pv:(OM.setIfInBounds i true).toList=OM.toList.set i true:=by simp
   rw [Pv,List.count_set OK]
   have O5:0<OM.toList.count false:=List.count_pos_iff.2 (by rw [← PO];simp)
   rw [PO]
   rw [show (if (false==false)=true then 1 else 0)=1 from rfl,show (if (true==false)=true then 1 else 0)=0 from rfl]
   omega
  ·have:(fun j=>(OM.setIfInBounds i true).getD j false)=hZ (fun j=>OM.getD j false) i:=by
    funext j
    unfold hZ
    simp only [VR]
    by_cases e:j=i
    ·subst e;simp [hl,h1]
    ·rw [V4 (Ne.symm e),if_neg e]
   rw [this]
   exact Uh
theorem uK (RF:Trace P ops ops.toList t0 s0 tr tn sn) (hd:l0 ops ((tr.map Tr.fp).reverse++ [])=true) (hm:P.follows .mixedOrders=true) {M:MM} {own:Nat→Option Nat} {w:World} {a:Act} (id:Nat)
  (hw:bu w0 M own (bq s0) w) (hu:M.upto s0.length) (ht:bT M t0 a.tmps) (Un:a.defers=df) {Q:Exit→Act→World→Prop} (rr:Option Nat)
  (hq:∀M' OH w' a',M.Le M'→M'.upto sn.length→bu w0 M' OH (bq sn) w'→bT M' tn a'.tmps→a'.defers=df→Q .normal a' w'):(Code.region id ops true).wpIn (FW rr) 0 P Q a w:=by
 refine wpIn_region_any hm (Ee (w0:=w0) (M0:=M) RF hd hq rr ops.size _ M own _ a (by simp) ?_ ?_)
 ·rw [Array.toList_replicate];simp
 ·have hL:∀j,(Array.replicate ops.size false).getD j false=false:=fun j=>by
   rw [VR,Array.getElem?_replicate]
   split<;>rfl
  have eT:∀k,eE tr t0 (fun j=>(Array.replicate ops.size false).getD j false) k=t0:=by
   intro k
   induction k with
   |zero=>rfl
   |succ k ih=>unfold eE;simp only [hL k];exact ih
  have eS:∀k,cb tr (bq s0) (fun j=>(Array.replicate ops.size false).getD j false) k=bq s0:=by
   intro k
   induction k with
   |zero=>rfl
   |succ k ih=>unfold cb;simp only [hL k];exact ih
  refine ⟨fun j hj=> ?_,?_,?_,Un,?_,.refl M⟩
  ·rw [hL j] at hj;cases hj
  ·rw [eS];exact hw.drew
  ·rw [eT];exact ht
  ·intro id h
   left
   rcases VA id s0.length with q|q
   ·exact q
   ·rcases h with h|⟨v,h⟩
    ·exact absurd (hu.1 id q) h
    ·exact absurd (hu.2 id v q) h
end
end Go.Ev
