import Derived.Test.YtbfpahigdpigpaaGreatV02
open Bool renaming and_eq_true→ZD,or_eq_true→ZV,not_eq_true'→Z8
open Option.some renaming inj→ZE
open List renaming getD_eq_getElem?_getD→ZF,getElem?_eq_none→ZN,length_append→ZR,length_cons→ZZ,length_nil→Z5,getElem?_cons_succ→aaC,length_singleton→aaJ,getElem?_set_ne→aaL,mem_cons→aaR
open Nat renaming le_refl→ZP,lt_or_ge→ZY,beq_eq→Z3,zero_add→aan
open Array renaming getElem?_toList→Z0,getD_eq_getD_getElem? →Z7,getElem?_eq_none→aak,length_toList→aal,getElem?_setIfInBounds_ne→aar
open Option renaming getD_some→aay,map_some→aaT,bind_some→aaW
open Go.Region renaming wanted→aaA
/- Contracts and plain laws that a statement's proof leans on (texts merged:EvN). -/
set_option linter.unusedVariables false
set_option linter.unusedSimpArgs false
namespace Go.Ev
open Go Go.RowKit
section
variable {ρ':Type}
mutual
theorem force_eq:∀(d:D) (K:D→Option ρ'),force d K=K d
  | .undef,K=>by simp [force]
  | .int _ _,K=>by simp [force]
  | .bool _,K=>by simp [force]
  | .str _,K=>by simp [force]
  | .gA,K=>by simp [force]
  | .ptr _ _ _,K=>by simp [force]
  | .eY _ _ _,K=>by simp [force]
  | .gw _,K=>by simp [force]
  | .jM _,K=>by simp [force]
  | .dz _ _ _,K=>by simp [force]
  | .sub _ _ _ _ _,K=>by simp [force]
  | .bc _ _ _,K=>by simp [force]
  | .cg,K=>by simp [force]
  | .fn f a b,K=>by rw [force,hJ,hJ]
  | .agg cs,K=>by rw [force,hJ]
  | .aL cs,K=>by rw [force,hJ]
theorem hJ:∀(l:List D) (K:List D→Option ρ'),jn l K=K l
  | [],K=>by simp [jn]
  |d::r,K=>by rw [jn,force_eq,hJ]
end
theorem Ew:∀(l:List D) (i:Nat) (d:D) (K:List D→Option ρ'),F8 l i d K=K (l.set i d)
 | [],i,d,K=>by simp [F8]
 |a::r,0,d,K=>by simp [F8]
 |a::r,i+1,d,K=>by rw [F8,Ew];rfl
theorem kR (t:List D) (dst:Option Nat) (d:D) (K:List D→Option ρ'):nN t dst d K=K (put t dst d):=by
 cases dst with
 |none=>rfl
 |some i=>simp only [nN,force_eq,Ew,put]
theorem jh:∀(l:List Ob) (i:Nat) (d:Ob) (K:List Ob→Option ρ'),kP l i d K=K (l.set i d)
 | [],i,d,K=>by simp [kP]
 |a::r,0,d,K=>by simp [kP]
 |a::r,i+1,d,K=>by rw [kP,jh];rfl
theorem ta:∀(es:List (List D×D)) (K:List (List D×D)→Option ρ'),rz es K=K es
 | [],_=>rfl
 |(n,d)::r,K=>by simp [rz,hJ,force_eq,ta r]
theorem CY (o:Ob) (K:Ob→Option ρ'):xY o K=K o:=by cases o<;>simp [xY,hJ,ta]
theorem s9 {ρ':Type} {P:Program} {r:ρ'} {z:Z P} {o:Ob} {k:Z P→Ob→Option ρ'} (h:qc z o k=some r):∃z',k z' o=some r∧(z'.c→z.c):=by
 unfold qc at h
 split at h
 ·exact ⟨_,h,id⟩
 ·rw [CY] at h
  exact ⟨_,h,id⟩
theorem pW:∀(l:List Ob) (o:Ob) (K:List Ob→Option ρ'),oc l o K=K (l++ [o])
 | [],o,K=>by simp [oc]
 |a::r,o,K=>by rw [oc,pW];rfl
end
structure Tr where
  o:Oper
  t:List D
  s:List Ob
  e:Option jT
  k:List Nat
  kc:List (Nat×Nat)
def Tr.val (x:Tr):D:=match x.e with|none=> .aL []|some e=>e.val x.s.length
def Tr.Fa (x:Tr):List D:=put x.t x.o.dst x.val
def Tr.fK (x:Tr):List Ob:=match x.e with
  |some (.gQ i _ o' _)=>x.s.set i o'
  |some (.new o' _)=>x.s++ [o']
  |some (.all s' _)=>s'
  |_=>x.s
def Tr.fp (x:Tr):FP:=match x.e with
  |some (.read i _ _)=> .rd i
  |some (.ji i j _)=> .um i j
  |some (.gQ i _ _ _)=> .wr i
  |some (.new _ _)=> .nw x.s.length
  |some (.all _ _)=> .all x.k x.kc
  |_=> .O5
def Tr.QC (x:Tr):Prop:=match x.e with
  |some (.all s' _)=>(∀i∈x.k,i<x.s.length∧x.s.getD i .dead=s'.getD i .dead)∧∀i j,(i,j)∈x.kc→hY (x.s.getD i .dead) j=hY (s'.getD i .dead) j
  |_=>True
def Tr.MK (P:Program) (ops:Array Oper) (x:Tr):Prop:=
  match x.o.guard with
  |none=> ∃e,x.e=some e∧jY P x.o (cP x.t) x.s e
  |some (j,want)=>(∃b,kA ops x.t j= .bool b∧((b=want∧∃e,x.e=some e∧jY P x.o (cP x.t) x.s e)∨(b≠want∧x.e=none)))∨(kA ops x.t j= .aL []∧x.e=none)
def Tr.ok (P:Program) (ops:Array Oper) (x:Tr):Prop:=x.MK P ops∧x.QC
theorem p9 {s s':List Ob} :∀(l:List (Nat×Ob)) {c:Prop},sT s.length l=true→Fp s s' l c→c∧∀i∈nG l,i<s.length∧s.getD i .dead=s'.getD i .dead
 | [],c,_,h=>⟨h,fun i hi=>by simp [nG] at hi⟩
 |(i,o)::r,c,hl,h=>by
  simp only [sT] at hl
  split at hl
  ·rename_i Tq
   obtain ⟨⟨⟨h1,h2⟩,h3⟩,h4⟩:=p9 r hl h
   refine ⟨h3,fun j hj=> ?_⟩
   rw [nG,aaR] at hj
   rcases hj with rfl|hj
   ·exact ⟨Nat.lt_of_succ_le (by simpa [Nat.blt,Nat.ble_eq] using Tq),h1.symm.trans h2⟩
   ·exact h4 j hj
  ·cases hl
theorem vt {s s':List Ob} :∀(l:List (Nat×Nat×D)) {c:Prop},LF s s' l c→c∧∀i j,(i,j)∈pI l→hY (s.getD i .dead) j=hY (s'.getD i .dead) j
 | [],c,h=>⟨h,fun i j hi=>by simp [pI] at hi⟩
 |(i,j,d)::r,c,h=>by
  obtain ⟨⟨⟨h1,h2⟩,h3⟩,h4⟩:=vt r h
  refine ⟨h3,fun a b hj=> ?_⟩
  rw [pI,aaR] at hj
  rcases hj with e|hj
  ·cases e;exact h1.symm.trans h2
  ·exact h4 a b hj
theorem Hz {ρ':Type} {P:Program} {r:ρ'} {z:Z P} {s s':List Ob} {k:Z P→List Nat→List (Nat×Nat)→Option ρ'} (h:Fm z s s' k=some r):∃z' l kc,k z' l kc=some r∧(z'.c→z.c∧(∀i∈l,i<s.length∧s.getD i .dead=s'.getD i .dead)∧∀i j,(i,j)∈kc→hY (s.getD i .dead) j=hY (s'.getD i .dead) j):=by
 unfold Fm at h
 split at h
 ·rename_i l rest hz
  obtain ⟨hl,h⟩:=b8 h
  refine ⟨_,_,_,h,fun hc=> ?_⟩
  obtain ⟨h1,h2⟩:=p9 l hl hc
  exact ⟨h1,h2,fun i j hi=>by simp at hi⟩
 ·rename_i cs l rest hz
  obtain ⟨hl,h⟩:=b8 h
  refine ⟨_,_,_,h,fun hc=> ?_⟩
  obtain ⟨h0,h3⟩:=vt cs hc
  obtain ⟨h1,h2⟩:=p9 l hl h0
  exact ⟨h1,h2,h3⟩
 ·exact ⟨z,[],[],h,fun c=>⟨c,fun i hi=>by simp at hi,fun i j hi=>by simp at hi⟩⟩
def Trace (P:Program) (ops:Array Oper):List Oper→List D→List Ob→List Tr→List D→List Ob→Prop
  | [],t,s,tr,t',s'=>tr= []∧t'=t∧s'=s
  |o::rest,t,s,tr,t',s'=> ∃x xs,tr=x::xs∧x.o=o∧x.t=t∧x.s=s∧x.ok P ops∧Trace P ops rest x.Fa x.fK xs t' s'
theorem gM {ρ':Type} {P:Program} {r:ρ'} {inl:FL P ρ'} (TM:lQ P inl) {ops:Array Oper} :∀ {rest:List Oper} {t:List D} {s:List Ob} {UC:List FP} {z:Z P} {K:List D→List Ob→List FP→Z P→Option ρ'},mX P inl ops rest t s UC z K=some r→
  ∃tr t' s' z',K t' s' ((tr.map Tr.fp).reverse++UC) z'=some r∧(z'.c→z.c∧Trace P ops rest t s tr t' s')
 | [],t,s,UC,z,K,h=>⟨[],t,s,z,h,fun c=>⟨c,rfl,rfl,rfl⟩⟩
 |o::rest,t,s,UC,z,K,h=>by
  have run:∀ {z:Z P} {want:Prop},(Q5 P inl o t s z fun z e=>match e with
    | .pure d=>nN t o.dst d fun t'=>mX P inl ops rest t' s (.O5::UC) z K
    | .read id _ d=>nN t o.dst d fun t'=>mX P inl ops rest t' s (.rd id::UC) z K
    | .ji id j d=>nN t o.dst d fun t'=>mX P inl ops rest t' s (.um id j::UC) z K
    | .gQ id _ o' d=>nN t o.dst d fun t'=>qc z o' fun z o2=>kP s id o2 fun s'=>mX P inl ops rest t' s' (.wr id::UC) z K
    | .new o' mk=>nN t o.dst (mk s.length) fun t'=>qc z o' fun z o2=>oc s o2 fun s'=>mX P inl ops rest t' s' (.nw s.length::UC) z K
    | .all s' d=>nN t o.dst d fun t'=>Fm z s s' fun z l kc=>mX P inl ops rest t' s' (.all l kc::UC) z K)=some r→
    ∃e l kc tr t' s' z',K t' s' ((tr.map Tr.fp).reverse++((⟨o,t,s,some e,l,kc⟩:Tr).fp::UC)) z'=some r∧(z'.c→z.c∧jY P o (cP t) s e∧(⟨o,t,s,some e,l,kc⟩:Tr).QC∧Trace P ops rest (⟨o,t,s,some e,l,kc⟩:Tr).Fa (⟨o,t,s,some e,l,kc⟩:Tr).fK tr t' s'):=by
   intro z want h
   obtain ⟨e,z1,h1,h2⟩:=MI TM h
   cases e with
   |pure d=>
    simp only [kR] at h1
    obtain ⟨tr,t',s',z',k1,k2⟩:=gM TM h1
    exact ⟨.pure d,[],[],tr,t',s',z',k1,fun c=>⟨(h2 (k2 c).1).1,(h2 (k2 c).1).2,trivial,(k2 c).2⟩⟩
   |read i ob d=>
    simp only [kR] at h1
    obtain ⟨tr,t',s',z',k1,k2⟩:=gM TM h1
    exact ⟨.read i ob d,[],[],tr,t',s',z',k1,fun c=>⟨(h2 (k2 c).1).1,(h2 (k2 c).1).2,trivial,(k2 c).2⟩⟩
   |ji i j d=>
    simp only [kR] at h1
    obtain ⟨tr,t',s',z',k1,k2⟩:=gM TM h1
    exact ⟨.ji i j d,[],[],tr,t',s',z',k1,fun c=>⟨(h2 (k2 c).1).1,(h2 (k2 c).1).2,trivial,(k2 c).2⟩⟩
   |gQ i ob ob' d=>
    simp only [kR] at h1
    obtain ⟨z2,h3,h4⟩:=s9 h1
    rw [jh] at h3
    obtain ⟨tr,t',s',z',k1,k2⟩:=gM TM h3
    exact ⟨.gQ i ob ob' d,[],[],tr,t',s',z',k1,fun c=>⟨(h2 (h4 (k2 c).1)).1,(h2 (h4 (k2 c).1)).2,trivial,(k2 c).2⟩⟩
   |new ob mk=>
    simp only [kR] at h1
    obtain ⟨z2,h3,h4⟩:=s9 h1
    rw [pW] at h3
    obtain ⟨tr,t',s',z',k1,k2⟩:=gM TM h3
    exact ⟨.new ob mk,[],[],tr,t',s',z',k1,fun c=>⟨(h2 (h4 (k2 c).1)).1,(h2 (h4 (k2 c).1)).2,trivial,(k2 c).2⟩⟩
   |all s2 d=>
    simp only [kR] at h1
    obtain ⟨z2,l,kc,h3,h4⟩:=Hz h1
    obtain ⟨tr,t',s',z',k1,k2⟩:=gM TM h3
    exact ⟨.all s2 d,l,kc,tr,t',s',z',k1,fun c=>⟨(h2 (h4 (k2 c).1).1).1,(h2 (h4 (k2 c).1).1).2,(h4 (k2 c).1).2,(k2 c).2⟩⟩
  unfold mX at h
  simp only at h
  split at h
  ·rename_i hg
   obtain ⟨e,l,kc,tr,t',s',z',k1,k2⟩:=run (want:=True) h
   refine ⟨⟨o,t,s,some e,l,kc⟩::tr,t',s',z',by simpa using k1,fun c=>⟨(k2 c).1,_,_,rfl,rfl,rfl,rfl,⟨?_,(k2 c).2.2.1⟩,(k2 c).2.2.2⟩⟩
   simp only [Tr.MK,hg]
   exact ⟨e,rfl,(k2 c).2.1⟩
  ·rename_i j want hg
   split at h
   ·rename_i b hb
    obtain ⟨z1,⟨h1,h2⟩|⟨h1,h2⟩⟩:=oq h
    ·obtain ⟨e,l,kc,tr,t',s',z',k1,k2⟩:=run (want:=True) h1
     refine ⟨⟨o,t,s,some e,l,kc⟩::tr,t',s',z',by simpa using k1,fun c=>⟨(h2 (k2 c).1).1,_,_,rfl,rfl,rfl,rfl,⟨?_,(k2 c).2.2.1⟩,(k2 c).2.2.2⟩⟩
     simp only [Tr.MK,hg]
     exact .inl ⟨b,hb,.inl ⟨by simpa using (h2 (k2 c).1).2,e,rfl,(k2 c).2.1⟩⟩
    ·rw [kR] at h1
     obtain ⟨tr,t',s',z',k1,k2⟩:=gM TM h1
     refine ⟨⟨o,t,s,none,[],[]⟩::tr,t',s',z',by simpa [Tr.fp] using k1,fun c=>⟨(h2 (k2 c).1).1,_,_,rfl,rfl,rfl,rfl,⟨?_,trivial⟩,(k2 c).2⟩⟩
     simp only [Tr.MK,hg]
     exact .inl ⟨b,hb,.inr ⟨by simpa using (h2 (k2 c).1).2,trivial⟩⟩
   ·rename_i hb
    rw [kR] at h
    obtain ⟨tr,t',s',z',k1,k2⟩:=gM TM h
    refine ⟨⟨o,t,s,none,[],[]⟩::tr,t',s',z',by simpa [Tr.fp] using k1,fun c=>⟨(k2 c).1,_,_,rfl,rfl,rfl,rfl,⟨?_,trivial⟩,(k2 c).2⟩⟩
    simp only [Tr.MK,hg]
    exact .inr ⟨hb,trivial⟩
   ·cases h
theorem jH {M M':MM} (le:M.Le M') {t:List D} {a:Act} (h:cA M t a.tmps) {dst:Option Nat} {d:D} {v:Value} (hr:cj M' d v):cA M' (put t dst d) (a.put dst v).tmps:=by
 cases dst with
 |none=>exact h.mono le
 |some i=>
  refine ⟨by simp [put,Act.put,h.1],fun k d' v' p q=> ?_⟩
  simp only [put,Act.put] at p q
  by_cases e:i=k
  ·subst e
   have Tq:i<t.length:=by
    rcases ZY i t.length with x|x
    ·exact x
    ·rw [ZN (by simpa using x)] at p;cases p
   have Wh:i<a.tmps.size:=by rw [← h.1];exact Tq
   simp [Tq] at p
   simp [Wh] at q
   subst p q
   exact hr
  ·rw [aaL e] at p
   rw [aar e] at q
   exact (h.2 k d' v' p q).mono le
theorem eD (a:Act) (dst:Option Nat) (v:Value):(a.put dst v).defers=a.defers:=by cases dst<;>rfl
theorem vd {M:MM} {ops:Array Oper} {t:List D} {a:Act} {j:Nat} {b:Bool} (h:∀i,(ops[j]?).bind (·.dst)=some i→cj M (t.getD i .undef) (a.tmps.getD i undef)) (hg:kA ops t j= .bool b):yielded ops a.tmps j=some b:=by
 unfold kA at hg
 split at hg
 ·rename_i o ho
  split at hg
  ·rename_i i hi
   have h1:=h i (by simp [ho,hi])
   rw [hg] at h1
   unfold yielded
   simp only [ho,aaW,hi]
   generalize hv:a.tmps.getD i undef=v at h1
   cases h1
   rw [Z7] at hv
   cases e:a.tmps[i]? with
   |none=>rw [e] at hv;cases hv
   |some u=>rw [e] at hv;simp only [aay] at hv;subst hv;rfl
  ·cases hg
 ·cases hg
theorem sr {M:MM} :cj M (.aL []) undef:= .aL rfl (fun i d v h=>by simp at h)
theorem qz {M:MM} {ops:Array Oper} {t:List D} {a:Act} {j:Nat} (h:∀i,(ops[j]?).bind (·.dst)=some i→cj M (t.getD i .undef) (a.tmps.getD i undef)) (hg:kA ops t j= .aL []):yielded ops a.tmps j=none:=by
 unfold kA at hg
 split at hg
 ·rename_i o ho
  split at hg
  ·rename_i i hi
   have h1:=h i (by simp [ho,hi])
   rw [hg] at h1
   unfold yielded
   simp only [ho,aaW,hi]
   generalize hv:a.tmps.getD i undef=v at h1
   cases h1
   rw [Z7] at hv
   cases e:a.tmps[i]? with
   |none=>rfl
   |some u=>rw [e] at hv;simp only [aay] at hv;subst hv;rfl
  ·cases hg
 ·cases hg
theorem ka {M:MM} {t:List D} {vs:Array Value} (h:cA M t vs) (i:Nat):cj M (t.getD i .undef) (vs.getD i undef):=by
 cases e:t[i]? with
 |none=>rw [ZF,e];exact .undef _
 |some d=>
  obtain ⟨v,hv,hr⟩:=h.get e
  rw [ZF,e,Z7,hv]
  exact hr
theorem mL {s:List Ob} {i:Nat} (h:i<s.length) (o:Ob):bP (s.set i o)=gQ (bP s) i o:=by
 funext k
 unfold bP gQ
 simp only [ZF]
 by_cases e:k=i
 ·subst e;rw [List.getElem?_set_self h];simp
 ·rw [aaL (Ne.symm e),if_neg e]
theorem pR (s:List Ob) (o:Ob):bP (s++ [o])=gQ (bP s) s.length o:=by
 funext k
 unfold bP gQ
 simp only [ZF,List.getElem?_append]
 by_cases e:k=s.length
 ·subst e;simp
 ·rw [if_neg e]
  split
  ·rfl
  ·rename_i h
   rw [ZN (by simp;omega),ZN (by omega)]
theorem MM.lC {M M':MM} {n m:Nat} (h:M.upto n) (hb:∀j,m≤j→M'.box j=M.box j) (hh:∀j,m≤j→M'.b9 j=M.b9 j) (hm:n≤m):M'.upto m:=
 ⟨fun id hi=>by rw [hb id hi];exact h.1 id (by omega),fun id v hi=>by rw [hh id hi];exact h.2 id v (by omega)⟩
theorem F5 {P:Program} {ops:Array Oper} {x:Tr} (hx:x.ok P ops) {w0:eW} {M:MM} {own:Nat→Option Nat} {w:World} {a:Act} (hw:cn w0 M own (bP x.s) w) (hu:M.upto x.s.length) (ht:cA M x.t a.tmps)
  {next:Act→World→Prop} {Q:Exit→Act→World→Prop}
  (hn:∀M' Tj w' a',M.Le M'→M'.upto x.fK.length→cn w0 M' Tj (bP x.fK) w'→cA M' x.Fa a'.tmps→a'.defers=a.defers→next a' w'):
  (if aaA x.o (yielded ops a.tmps) then Md P x.o a w next Q else next (a.put x.o.dst undef) w)∧x.s.length≤x.fK.length:=by
 obtain ⟨o,t,s,e,l,kc⟩:=x
 replace hx:=hx.1
 replace hu:M.upto s.length:=hu
 replace hw:cn w0 M own (bP s) w:=hw
 replace ht:cA M t a.tmps:=ht
 have WR:∀ {e0:jT},e=some e0→jY P o (cP t) s e0→Md P o a w next Q∧s.length≤(⟨o,t,s,e,l,kc⟩:Tr).fK.length:=by
  intro e0 he h0
  subst he
  have Uy:∀y∈o.op.operands,cj M (cP t y) (a.eval y):=fun y _=>oY ht y
  have T1:M.box s.length=none∧∀v,M.b9 s.length v=none:=⟨hu.1 _ (ZP _),fun v=>hu.2 _ v (ZP _)⟩
  cases e0 with
  |pure d=>
   exact ⟨h0 w0 M own _ w a s.length hw Uy trivial next Q fun v M' Tj w' le ad Uo hr=>hn M' Tj w' _ le (MM.lC hu (m:=s.length) (fun j _=>by rw [ad.1]) (fun j _=>by rw [ad.2]) (ZP _)) Uo (jH le ht hr) (eD _ _ _),ZP _⟩
  |ji i j d=>
   exact ⟨h0.2 w0 M own _ w a s.length hw Uy h0.1.1 next Q fun v M' Tj w' le ad Uo hr=>hn M' Tj w' _ le (MM.lC hu (m:=s.length) (fun j _=>by rw [ad.1]) (fun j _=>by rw [ad.2]) (ZP _)) Uo (jH le ht hr) (eD _ _ _),ZP _⟩
  |read i ob d=>
   exact ⟨h0.2 w0 M own _ w a s.length hw Uy h0.1.1 next Q fun v M' Tj w' le ad Uo hr=>hn M' Tj w' _ le (MM.lC hu (m:=s.length) (fun j _=>by rw [ad.1]) (fun j _=>by rw [ad.2]) (ZP _)) Uo (jH le ht hr) (eD _ _ _),ZP _⟩
  |gQ i ob ob' d=>
   refine ⟨h0.2 w0 M own _ w a s.length hw Uy h0.1.1 next Q fun v M' Tj w' le ad Uo hr=>hn M' Tj w' _ le (by
    simp only [Tr.fK,List.length_set]
    exact MM.lC hu (fun j _=>by rw [ad.1]) (fun j hj=>ad.2 j (by have:=h0.1.2;omega)) (ZP _)) (by simp only [Tr.fK];rw [mL h0.1.2];exact Uo) (jH le ht hr) (eD _ _ _),by simp [Tr.fK]⟩
  |new ob mk=>
   refine ⟨h0 w0 M own _ w a s.length hw Uy T1 next Q fun v M' Tj w' le ad Uo hr=>hn M' Tj w' _ le (by
    simp only [Tr.fK,ZR,aaJ]
    exact MM.lC hu (fun j hj=>ad.1 j (by omega)) (fun j hj=>ad.2 j (by omega)) (by omega)) (by simp only [Tr.fK];rw [pR];exact Uo) (jH le ht hr) (eD _ _ _),by simp [Tr.fK]⟩
  |all s' d=>
   exact ⟨h0.2 w0 M own w a hw hu Uy next Q fun v M' Tj w' le up Uo hr=>hn M' Tj w' _ le up Uo (jH le ht hr) (eD _ _ _),h0.1⟩
 unfold Tr.MK at hx
 simp only at hx
 split at hx
 ·rename_i hg
  obtain ⟨e0,he,h0⟩:=hx
  obtain ⟨k1,k2⟩:=WR he h0
  refine ⟨?_,k2⟩
  have:aaA o (yielded ops a.tmps)=true:=by simp [aaA,hg]
  rw [if_pos this]
  exact k1
 ·rename_i j want hg
  rcases hx with ⟨b,hb,TV⟩|⟨hb,rfl⟩
  ·have hy:=vd (M:=M) (a:=a) (fun i _=>ka ht i) hb
   rcases TV with ⟨rfl,e0,he,h0⟩|⟨TU,rfl⟩
   ·obtain ⟨k1,k2⟩:=WR he h0
    refine ⟨?_,k2⟩
    have:aaA o (yielded ops a.tmps)=true:=by simp [aaA,hg,hy]
    rw [if_pos this]
    exact k1
   ·have:aaA o (yielded ops a.tmps)=false:=by simp [aaA,hg,hy,TU]
    rw [this]
    exact ⟨hn M own w _ (.refl M) hu hw (jH (.refl M) ht sr) (eD _ _ _),ZP _⟩
  ·have hy:=qz (M:=M) (a:=a) (fun i _=>ka ht i) hb
   have:aaA o (yielded ops a.tmps)=false:=by simp [aaA,hg,hy]
   rw [this]
   exact ⟨hn M own w _ (.refl M) hu hw (jH (.refl M) ht sr) (eD _ _ _),ZP _⟩
theorem qv {P:Program} {ops:Array Oper} {w0:eW} {Q:Exit→Act→World→Prop} {df:List Deferred} (rr:Option Nat):∀ {rest:List Oper} {t:List D} {s:List Ob} {tr:List Tr} {t':List D} {s':List Ob},Trace P ops rest t s tr t' s'→
  ∀ {M:MM} {own:Nat→Option Nat} {w:World} {a:Act} (k:Nat),ops.toList.drop k=rest→cn w0 M own (bP s) w→M.upto s.length→cA M t a.tmps→a.defers=df→
  (∀M' Tj w' a',M.Le M'→M'.upto s'.length→cn w0 M' Tj (bP s') w'→cA M' t' a'.tmps→a'.defers=df→Q .normal a' w')→wpOpsIn (FW rr) 0 P ops Q (List.range' k rest.length) a w
 | [],t,s,tr,t',s',h,M,own,w,a,k,hk,hw,hu,ht,hd,hq=>by
  obtain ⟨rfl,rfl,rfl⟩:=h
  exact hq M own w a (.refl M) hu hw ht hd
 |o::rest,t,s,tr,t',s',h,M,own,w,a,k,hk,hw,hu,ht,hd,hq=>by
  obtain ⟨x,xs,rfl,rfl,rfl,rfl,TY,h⟩:=h
  have Vm:ops[k]? =some x.o:=by
   rw [← Z0]
   have:=congrArg (fun l=>l[0]?) hk
   simpa using this
  have XD:ops.toList.drop (k+1)=rest:=by
   have:=congrArg List.tail hk
   simpa using this
  rw [ZZ,List.range'_succ]
  simp only [wpOpsIn,Vm]
  have hs:=(F5 (next:=wpOpsIn (FW rr) 0 P ops Q (List.range' (k+1) rest.length)) (Q:=Q) TY hw hu ht fun M' Tj w' a' le up Uo Xq XE=>qv rr h (k+1) XD Uo up Xq (by rw [XE];exact hd) fun M2 Uq w2 a2 U1 up2 UF Wy hd2=>hq M2 Uq w2 a2 (le.trans U1) up2 UF Wy hd2).1
  split
  ·rename_i Yp
   rw [if_pos Yp] at hs
   exact hs rr
  ·rename_i Yp
   rw [if_neg Yp] at hs
   exact ⟨fun _ _=>trivial,hs⟩
theorem oL {P:Program} {ops:Array Oper} :∀ {rest:List Oper} {t:List D} {s:List Ob} {tr:List Tr} {t':List D} {s':List Ob},Trace P ops rest t s tr t' s'→∀(i:Nat) (x:Tr),tr[i]? =some x→rest[i]? =some x.o∧x.ok P ops
 | [],_,_,_,_,_,h,i,x,hx=>by obtain ⟨rfl,_⟩:=h;simp at hx
 |o::rest,_,_,_,_,_,h,i,x,hx=>by
  obtain ⟨y,xs,rfl,ho,_,_,TY,h⟩:=h
  cases i with
  |zero=>simp at hx;subst hx;exact ⟨by simp [ho],TY⟩
  |succ i=>exact oL h i x (by simpa using hx)
theorem uQ {P:Program} {ops:Array Oper} {x:Tr} (h:x.ok P ops):x.s.length≤x.fK.length:=by
 obtain ⟨o,t,s,e,l,kc⟩:=x
 replace h:=h.1
 have WR:∀ {e0:jT},e=some e0→jY P o (cP t) s e0→s.length≤(⟨o,t,s,e,l,kc⟩:Tr).fK.length:=by
  intro e0 he h0
  subst he
  cases e0 with
  |pure d=>exact ZP _
  |read i ob d=>exact ZP _
  |ji i j d=>exact ZP _
  |gQ i ob ob' d=>simp [Tr.fK]
  |new ob mk=>simp [Tr.fK]
  |all s' d=>exact h0.1
 unfold Tr.MK at h
 simp only at h
 split at h
 ·obtain ⟨e0,he,h0⟩:=h;exact WR he h0
 ·obtain ⟨b,_,⟨_,e0,he,h0⟩|⟨_,rfl⟩⟩|⟨_,rfl⟩:=h
  ·exact WR he h0
  ·exact ZP _
  ·exact ZP _
theorem kj {P:Program} {ops:Array Oper} :∀ {rest:List Oper} {t:List D} {s:List Ob} {tr:List Tr} {t':List D} {s':List Ob},Trace P ops rest t s tr t' s'→s.length≤s'.length
 | [],_,_,_,_,_,h=>by obtain ⟨_,_,rfl⟩:=h;exact ZP _
 |o::rest,_,_,_,_,_,h=>by
  obtain ⟨x,xs,rfl,_,_,rfl,TY,h⟩:=h
  exact Nat.le_trans (uQ TY) (kj h)
theorem oh (acc:List Nat):∀(es:List Edge) (m k:Nat),(es.foldl (fun m e=>match Region.binds .any e with|true=>m|||(1<<<e.on)|||acc.getD e.on 0|false=>m) m).testBit k=true→
  m.testBit k=true∨∃e∈es,Region.binds .any e=true∧(k=e.on∨(acc.getD e.on 0).testBit k=true)
 | [],m,k,h=> .inl h
 |e::es,m,k,h=>by
  rw [List.foldl_cons] at h
  rcases oh acc es _ k h with h|⟨e',he,h1,h2⟩
  ·split at h
   ·rename_i hb
    rw [Nat.testBit_or,Nat.testBit_or,ZV,ZV] at h
    rcases h with (h|h)|h
    ·exact .inl h
    ·refine .inr ⟨e,by simp,hb,.inl ?_⟩
     rw [Nat.one_shiftLeft,Nat.testBit_two_pow] at h
     exact (of_decide_eq_true h).symm
    ·exact .inr ⟨e,by simp,hb,.inr h⟩
   ·exact .inl h
  ·exact .inr ⟨e',by simp [he],h1,h2⟩
def yu (o:Oper) (acc:List Nat):Nat:=o.after.toList.foldl (fun m e=>match Region.binds .any e with|true=>m|||(1<<<e.on)|||acc.getD e.on 0|false=>m) 0
theorem jL:∀(rest:List Oper) (acc:List Nat),(ja rest acc).length=acc.length+rest.length∧(ja rest acc).take acc.length=acc∧
  ∀(j:Nat) (o:Oper),rest[j]? =some o→(ja rest acc)[acc.length+j]? =some (yu o ((ja rest acc).take (acc.length+j)))
 | [],acc=>⟨by simp [ja],by simp [ja],fun j o h=>by simp at h⟩
 |o::rest,acc=>by
  have ih:=jL rest (acc++ [yu o acc])
  have hun:ja (o::rest) acc=ja rest (acc++ [yu o acc]):=rfl
  rw [hun]
  obtain ⟨h1,h2,h3⟩:=ih
  have W2:(ja rest (acc++ [yu o acc])).take acc.length=acc:=by
   have:=congrArg (fun l=>l.take acc.length) h2
   simp only [ZR,aaJ,List.take_take] at this
   rw [show min acc.length (acc.length+1)=acc.length by omega] at this
   rw [this]
   simp
  refine ⟨by rw [h1];simp;omega,W2,fun j q hq=> ?_⟩
  cases j with
  |zero=>
   simp at hq
   subst hq
   rw [Nat.add_zero,W2]
   have:=congrArg (fun l=>l[acc.length]?) h2
   simp only [ZR,aaJ,List.getElem?_take] at this
   rw [if_pos (by omega)] at this
   rw [this]
   simp
  |succ j=>
   have:=h3 j q (by simpa using hq)
   simp only [ZR,aaJ] at this
   rw [show acc.length+1+j=acc.length+(j+1) by omega] at this
   exact this
def EM (ops:Array Oper) (L:Nat→Bool) (j:Nat):Prop:= ∀o,ops[j]? =some o→∀e∈o.after.toList,Region.binds .any e=true→L e.on=true
def closed (ops:Array Oper) (L:Nat→Bool):Prop:= ∀i,L i=true→EM ops L i
theorem reach {ops:Array Oper} {L:Nat→Bool} (hc:closed ops L):∀(n j:Nat),j≤n→EM ops L j→∀k,((ja ops.toList []).getD j 0).testBit k=true→L k=true:=by
 intro n
 induction n with
 |zero=>
  intro j hj hp k hk
  obtain rfl:j=0:=by omega
  cases ho:ops[0]? with
  |none=>
   have hlen:=(jL ops.toList []).1
   have:(ja ops.toList [])[0]? =none:=by
    rw [List.getElem?_eq_none_iff,hlen,Z5,aan,aal]
    exact Array.getElem?_eq_none_iff.1 ho
   rw [ZF,this] at hk
   simp at hk
  |some o=>
   have h:=(jL ops.toList []).2.2 0 o (by rw [Z0];exact ho)
   simp only [Z5,aan,List.take_zero] at h
   rw [ZF,h,aay] at hk
   rcases oh _ _ _ _ hk with h0|⟨e,he,h1,h2⟩
   ·simp at h0
   ·rcases h2 with rfl|h2
    ·exact hp o ho e he h1
    ·simp at h2
 |succ n ih=>
  intro j hj hp k hk
  cases ho:ops[j]? with
  |none=>
   have hlen:=(jL ops.toList []).1
   have:(ja ops.toList [])[j]? =none:=by
    rw [List.getElem?_eq_none_iff,hlen,Z5,aan,aal]
    exact Array.getElem?_eq_none_iff.1 ho
   rw [ZF,this] at hk
   simp at hk
  |some o=>
   have h:=(jL ops.toList []).2.2 j o (by rw [Z0];exact ho)
   simp only [Z5,aan] at h
   rw [ZF,h,aay] at hk
   rcases oh _ _ _ _ hk with h0|⟨e,he,h1,h2⟩
   ·simp at h0
   ·have hL:=hp o ho e he h1
    rcases h2 with rfl|h2
    ·exact hL
    ·rw [ZF,List.getElem?_take] at h2
     split at h2
     ·rename_i Tq
      refine ih e.on (by omega) (hc _ hL) k ?_
      rw [ZF]
      exact h2
     ·simp at h2
section
variable (tr:List Tr) (t0:List D) (σ0:Nat→Ob)
def dU (x:Tr) (id:Nat):Prop:=match x.e with
  |some (.gQ i _ _ _)=>id=i
  |some (.new _ _)=>id=x.s.length
  |some (.all _ _)=>id∉x.k
  |_=>False
def gJ (L:Nat→Bool):Nat→List D
  |0=>t0
  |k+1=>match L k,tr[k]? with
    |true,some x=>put (gJ L k) x.o.dst x.val
    |_,_=>gJ L k
def cY (L:Nat→Bool):Nat→Nat→Ob
  |0=>σ0
  |k+1=>match L k,tr[k]? with
    |true,some x=>match x.e with
      |some (.gQ i _ o' _)=>gQ (cY L k) i o'
      |some (.new o' _)=>gQ (cY L k) x.s.length o'
      |some (.all s' _)=>fun id=>if id∈x.k then cY L k id else bP s' id
      |_=>cY L k
    |_,_=>cY L k
theorem jD {t:List D} {dst:Option Nat} {d:D} {i:Nat} (h:dst≠some i):(put t dst d)[i]? =t[i]? :=by
 cases dst with
 |none=>rfl
 |some j=>exact aaL (fun e=>h (by rw [e]))
theorem Co (t:List D) (dst:Option Nat) (d:D):(put t dst d).length=t.length:=by cases dst<;>simp [put]
theorem iz (L:Nat→Bool):∀k,(gJ tr t0 L k).length=t0.length
 |0=>rfl
 |k+1=>by
  unfold gJ
  split
  ·rw [Co,iz L k]
  ·exact iz L k
theorem kZ {L L':Nat→Bool} {i:Nat} :∀k,(∀j x,j<k→tr[j]? =some x→x.o.dst=some i→L j=L' j)→(gJ tr t0 L k)[i]? =(gJ tr t0 L' k)[i]?
 |0,_=>rfl
 |k+1,h=>by
  have ih:=kZ (L:=L) (L':=L') (i:=i) k (fun j x hj=>h j x (by omega))
  have hlen:(gJ tr t0 L k).length=(gJ tr t0 L' k).length:=by rw [iz,iz]
  unfold gJ
  cases hx:tr[k]? with
  |none=>cases L k<;>cases L' k<;>exact ih
  |some x=>
   by_cases hd:x.o.dst=some i
   ·rw [h k x (by omega) hx hd]
    cases L' k
    ·exact ih
    ·simp only [hd,put,List.getElem?_set,hlen,if_true]
   ·cases L k<;>cases L' k<;>simp only []<;>first|exact ih|(rw [jD hd];exact ih)|(rw [jD hd,jD hd];exact ih)
theorem om {L:Nat→Bool} {i:Nat} (m:Nat):∀k,m≤k→(∀j x,m≤j→j<k→tr[j]? =some x→x.o.dst=some i→L j=false)→(gJ tr t0 L k)[i]? =(gJ tr t0 L m)[i]?
 |0,hm,_=>by
  have e:m=0:=by omega
  subst e
  rfl
 |k+1,hm,h=>by
  by_cases e:m=k+1
  ·subst e;rfl
  ·have ih:=om m k (by omega) (fun j x h1 h2=>h j x h1 (by omega))
   conv=>lhs;unfold gJ
   cases hx:tr[k]? with
   |none=>cases L k<;>exact ih
   |some x=>
    by_cases hd:x.o.dst=some i
    ·rw [h k x (by omega) (by omega) hx hd];exact ih
    ·cases L k
     ·exact ih
     ·simp only [];rw [jD hd];exact ih
theorem jJ {L L':Nat→Bool} {id:Nat} :∀k,(∀j x,j<k→tr[j]? =some x→dU x id→L j=L' j)→cY tr σ0 L k id=cY tr σ0 L' k id
 |0,_=>rfl
 |k+1,h=>by
  have ih:=jJ (L:=L) (L':=L') (id:=id) k (fun j x hj=>h j x (by omega))
  unfold cY
  cases hx:tr[k]? with
  |none=>cases L k<;>cases L' k<;>exact ih
  |some x=>
   have hk:=h k x (by omega) hx
   unfold dU at hk
   cases he:x.e with
   |none=>cases L k<;>cases L' k<;>simp only [he]<;>exact ih
   |some e=>
    rw [he] at hk
    cases e with
    |pure d=>cases L k<;>cases L' k<;>simp only [he]<;>exact ih
    |read i o d=>cases L k<;>cases L' k<;>simp only [he]<;>exact ih
    |ji i j d=>cases L k<;>cases L' k<;>simp only [he]<;>exact ih
    |gQ i o o' d=>
     by_cases e1:id=i
     ·rw [hk e1];cases L' k<;>simp only [he,gQ,e1,if_true]<;>(try exact e1▸ih)
     ·cases L k<;>cases L' k<;>simp only [he,gQ,e1,if_false]<;>exact ih
    |new o' mk=>
     by_cases e1:id=x.s.length
     ·rw [hk e1];cases L' k<;>simp only [he,gQ,e1,if_true]<;>(try exact e1▸ih)
     ·cases L k<;>cases L' k<;>simp only [he,gQ,e1,if_false]<;>exact ih
    |all s' d=>
     by_cases e1:id∈x.k
     ·cases L k<;>cases L' k<;>simp only [he,e1,if_true]<;>exact ih
     ·rw [hk e1];cases L' k<;>simp only [he,e1,if_false];exact ih
theorem kE {L:Nat→Bool} {id:Nat} (m:Nat):∀k,m≤k→(∀j x,m≤j→j<k→tr[j]? =some x→dU x id→L j=false)→cY tr σ0 L k id=cY tr σ0 L m id
 |0,hm,_=>by
  have e:m=0:=by omega
  subst e
  rfl
 |k+1,hm,h=>by
  by_cases e:m=k+1
  ·subst e;rfl
  ·have ih:=kE m k (by omega) (fun j x h1 h2=>h j x h1 (by omega))
   conv=>lhs;unfold cY
   cases hx:tr[k]? with
   |none=>cases L k<;>exact ih
   |some x=>
    have hk:=h k x (by omega) (by omega) hx
    unfold dU at hk
    cases hL:L k with
    |false=>exact ih
    |true=>
     rw [hL] at hk
     simp only []
     cases he:x.e with
     |none=>exact ih
     |some e=>
      rw [he] at hk
      cases e with
      |pure d=>exact ih
      |read i o d=>exact ih
      |ji i j d=>exact ih
      |gQ i o o' d=>
       by_cases e1:id=i
       ·exact absurd (hk e1) (by simp)
       ·simp only [gQ,e1,if_false];exact ih
      |new o' mk=>
       by_cases e1:id=x.s.length
       ·exact absurd (hk e1) (by simp)
       ·simp only [gQ,e1,if_false];exact ih
      |all s' d=>
       by_cases e1:id∈x.k
       ·simp only [e1,if_true];exact ih
       ·exact absurd (hk e1) (by simp)
end
theorem tG {P:Program} {ops:Array Oper} :∀ {rest:List Oper} {t:List D} {s:List Ob} {tr:List Tr} {t':List D} {s':List Ob},Trace P ops rest t s tr t' s'→
  (∀(i:Nat) (x:Tr),tr[i]? =some x→gJ tr t (fun _=>true) i=x.t∧cY tr (bP s) (fun _=>true) i=bP x.s∧s.length≤x.s.length∧x.fK.length≤s'.length∧
   (∀(j:Nat) (y:Tr),j<i→tr[j]? =some y→y.fK.length≤x.s.length)∧(∀id,s.length≤id→id<x.s.length→∃j y,j<i∧tr[j]? =some y∧y.s.length≤id∧id<y.fK.length))∧
  gJ tr t (fun _=>true) tr.length=t'∧cY tr (bP s) (fun _=>true) tr.length=bP s'
 | [],t,s,tr,t',s',h=>by
  obtain ⟨rfl,rfl,rfl⟩:=h
  exact ⟨fun i x hx=>by simp at hx,rfl,rfl⟩
 |o::rest,t,s,tr,t',s',h=>by
  obtain ⟨x,xs,rfl,rfl,rfl,rfl,TY,h⟩:=h
  obtain ⟨ih,ih1,ih2⟩:=tG h
  have Zs:=uQ TY
  have Wa:∀k,gJ (x::xs) x.t (fun _=>true) (k+1)=gJ xs x.Fa (fun _=>true) k:=by
   intro k
   induction k with
   |zero=>rfl
   |succ k ihk=>
    conv=>lhs;unfold gJ
    conv=>rhs;unfold gJ
    simp only [aaC]
    cases xs[k]? with
    |none=>exact ihk
    |some y=>simp only [];rw [ihk]
  have TL:cY (x::xs) (bP x.s) (fun _=>true) 1=bP x.fK:=by
   unfold cY cY
   simp only [List.getElem?_cons_zero]
   unfold Tr.fK
   cases he:x.e with
   |none=>rfl
   |some e=>
    cases e with
    |pure d=>rfl
    |read i o d=>rfl
    |ji i j d=>rfl
    |gQ i ob ob' d=>
     have:i<x.s.length:=by
      replace TY:=TY.1
      unfold Tr.MK at TY
      rw [he] at TY
      split at TY
      ·obtain ⟨e0,h0,h1⟩:=TY;cases h0;exact h1.1.2
      ·obtain ⟨b,_,⟨_,e0,h0,h1⟩|⟨_,h0⟩⟩|⟨_,h0⟩:=TY
       ·cases h0;exact h1.1.2
       ·cases h0
       ·cases h0
     simp only []
     rw [mL this]
    |new ob mk=>simp only [];rw [pR]
    |all s2 d=>
     have hk:=TY.2
     unfold Tr.QC at hk
     rw [he] at hk
     simp only []
     funext id
     by_cases e1:id∈x.k
     ·rw [if_pos e1];exact (hk.1 id e1).2
     ·rw [if_neg e1]
  have V4:∀k,cY (x::xs) (bP x.s) (fun _=>true) (k+1)=cY xs (bP x.fK) (fun _=>true) k:=by
   intro k
   induction k with
   |zero=>exact TL
   |succ k ihk=>
    conv=>lhs;unfold cY
    conv=>rhs;unfold cY
    simp only [aaC]
    cases xs[k]? with
    |none=>exact ihk
    |some y=>simp only [];rw [ihk]
  refine ⟨fun i y hy=> ?_,by rw [ZZ,Wa];exact ih1,by rw [ZZ,V4];exact ih2⟩
  cases i with
  |zero=>
   simp at hy
   subst hy
   exact ⟨rfl,rfl,ZP _,kj h,fun j y hj=>by omega,fun id h1 h2=>by omega⟩
  |succ i=>
   obtain ⟨a1,a2,a3,a4,a5,a6⟩:=ih i y (by simpa using hy)
   refine ⟨by rw [Wa];exact a1,by rw [V4];exact a2,by omega,a4,?_,?_⟩
   ·intro j z hj hz
    cases j with
    |zero=>simp at hz;subst hz;exact a3
    |succ j=>exact a5 j z (by omega) (by simpa using hz)
   ·intro id h1 h2
    rcases ZY id x.fK.length with q|q
    ·exact ⟨0,x,by omega,rfl,h1,q⟩
    ·obtain ⟨j,z,b1,b2,b3,b4⟩:=a6 id q h2
     exact ⟨j+1,z,by omega,by simpa using b2,b3,b4⟩
theorem tE {ops:Array Oper} {tr:List Tr} (h:oj ops ((tr.map Tr.fp).reverse++ [])=true):
  tr.length=ops.size∧(∀(j:Nat) (o:Oper),ops[j]? =some o→∀e∈o.after.toList,Region.binds .any e=true→e.on<j)∧
  ∀(i j:Nat) (x y:Tr) (ox oy:Oper),i<j→tr[i]? =some x→tr[j]? =some y→ops[i]? =some ox→ops[j]? =some oy→((ja ops.toList []).getD j 0).testBit i=true∨(share ops ox oy=false∧iE x.fp y.fp=false):=by
 unfold oj at h
 simp only [List.append_nil,List.reverse_reverse,List.length_map,aal,ZD,Z3,List.all_eq_true,List.mem_range] at h
 obtain ⟨hl,h⟩:=h
 refine ⟨hl,?_,?_⟩
 ·intro j o ho e he hb
  have hj:j<ops.size:=by
   rcases ZY j ops.size with q|q
   ·exact q
   ·simp [aak q] at ho
  have:=(h j hj).1
  rw [Z0,ho] at this
  simp only [Array.all_eq_true_iff_forall_mem] at this
  have h1:=this e (by simpa using he)
  rw [hb] at h1
  simp only [Bool.not_true,Bool.false_or] at h1
  exact Nat.lt_of_succ_le (by simpa [Nat.blt,Nat.ble_eq] using h1)
 ·intro i j x y ox oy hij hx hy Yj Zm
  have hj:j<ops.size:=by
   rcases ZY j ops.size with q|q
   ·exact q
   ·simp [aak q] at Zm
  have:=(h j hj).2 i hij
  rw [Z0,Z0,Yj,Zm] at this
  simp only [ZF,List.getElem?_map,hx,hy,aaT,aay,ZV,ZD,Z8] at this
  rw [ZF]
  exact this
theorem nF {i:Nat} :∀ {l:List Nat},jQ i l=true↔i∈l
 | []=>by simp [jQ]
 |a::r=>by
  unfold jQ
  split
  ·rename_i h;rw [Z3] at h;subst h;simp
  ·rename_i h
   rw [nF]
   have:a≠i:=fun e=>by subst e;simp at h
   simp [Ne.symm this]
theorem AD {i j:Nat} :∀ {l:List (Nat×Nat)},CK i j l=true↔(i,j)∈l
 | []=>by simp [CK]
 |(a,b)::r=>by
  unfold CK
  split
  ·rename_i h1 h2
   rw [Z3] at h1 h2
   subst h1 h2
   simp
  ·rename_i h
   rw [AD,aaR]
   refine ⟨.inr,fun q=> ?_⟩
   rcases q with e|q
   ·cases e
    exact (h (Nat.beq_refl i) (Nat.beq_refl j)).elim
   ·exact q
theorem jg {z:Tr} {id:Nat} (h:dU z id):z.fp= .wr id∨z.fp= .nw id∨∃l kc,z.fp= .all l kc∧id∉l:=by
 unfold dU at h
 unfold Tr.fp
 cases he:z.e with
 |none=>rw [he] at h;exact h.elim
 |some e=>
  rw [he] at h
  cases e with
  |pure d=>exact h.elim
  |read i o d=>exact h.elim
  |ji i j d=>exact h.elim
  |gQ i o o' d=>subst h;exact .inl rfl
  |new o mk=>subst h;exact .inr (.inl rfl)
  |all s d=>exact .inr (.inr ⟨z.k,z.kc,rfl,h⟩)
theorem Fq {z:Tr} {id:Nat} (h1:z.s.length≤id) (h2:id<z.fK.length):z.fp= .nw id∨∃l kc,z.fp= .all l kc:=by
 unfold Tr.fK at h2
 unfold Tr.fp
 cases he:z.e with
 |none=>rw [he] at h2;simp at h2;omega
 |some e=>
  rw [he] at h2
  cases e with
  |pure d=>simp at h2;omega
  |read i o d=>simp at h2;omega
  |ji i j d=>simp at h2;omega
  |gQ i o o' d=>simp at h2;omega
  |new o mk=>
   simp at h2
   have e:id=z.s.length:=by omega
   subst e
   exact .inl rfl
  |all s d=>exact .inr ⟨_,_,rfl⟩
section
variable {P:Program} {ops:Array Oper} {t0:List D} {s0:List Ob} {tr:List Tr} {tn:List D} {sn:List Ob} {w0:eW} {M0:MM} {df:List Deferred}
structure NQ (df:List Deferred) (P:Program) (ops:Array Oper) (t0:List D) (s0:List Ob) (tr:List Tr) (w0:eW) (M0:MM) (L:Nat→Bool) (M:MM) (own:Nat→Option Nat) (w:World) (a:Act):Prop where
  cl:closed ops L
  rel:cn w0 M own (cY tr (bP s0) L ops.size) w
  y7:cA M (gJ tr t0 L ops.size) a.tmps
  defers:a.defers=df
  live:∀id,(M.box id≠none∨∃v,M.b9 id v≠none)→id<s0.length∨∃(j:Nat) (y:Tr),L j=true∧tr[j]? =some y∧y.s.length≤id∧id<y.fK.length
  le:M0.Le M
def j9 (L:Nat→Bool) (i:Nat):Nat→Bool:=fun j=>if j=i then true else L j
theorem F6 (Wp:Trace P ops ops.toList t0 s0 tr tn sn) (hd:oj ops ((tr.map Tr.fp).reverse++ [])=true) {L:Nat→Bool} {M:MM} {own:Nat→Option Nat} {w:World} {a:Act} (inv:NQ df P ops t0 s0 tr w0 M0 L M own w a)
  {i:Nat} {x:Tr} (hx:tr[i]? =some x) (Xp:L i=false) (hp:EM ops L i) {Q:Exit→Act→World→Prop} {K:Act→World→Prop}
  (hK:∀M' Tj w' a',NQ df P ops t0 s0 tr w0 M0 (j9 L i) M' Tj w' a'→K a' w'):∀rr,wpOpIn (FW rr) 0 P ops Q i K a w:=by
 intro rr
 obtain ⟨hlen,hedge,hpair⟩:=tE hd
 obtain ⟨Um,_,_⟩:=tG Wp
 obtain ⟨WA,TY⟩:=oL Wp i x hx
 have Vm:ops[i]? =some x.o:=by rw [← Z0];exact WA
 have Uy:∀ {j:Nat} {y:Tr},tr[j]? =some y→ops[j]? =some y.o:=fun {j y} hy=>by rw [← Z0];exact (oL Wp j y hy).1
 have TD:i<ops.size:=by
  rcases ZY i ops.size with q|q
  ·exact q
  ·simp [aak q] at Vm
 obtain ⟨aT,aS,a3,a4,a5,a6⟩:=Um i x hx
 have before:∀ {j:Nat} {y:Tr},j<i→tr[j]? =some y→(share ops y.o x.o=true∨iE y.fp x.fp=true)→L j=true:=by
  intro j y hj hy hc
  rcases hpair j i y x _ _ hj hy hx (Uy hy) Vm with h|⟨h1,h2⟩
  ·exact reach inv.cl i i (ZP _) hp j h
  ·rcases hc with hc|hc
   ·rw [h1] at hc;cases hc
   ·rw [h2] at hc;cases hc
 have after:∀ {j:Nat} {y:Tr},i<j→tr[j]? =some y→(share ops x.o y.o=true∨iE x.fp y.fp=true)→L j=false:=by
  intro j y hj hy hc
  rcases hpair i j x y _ _ hj hx hy Vm (Uy hy) with h|⟨h1,h2⟩
  ·cases e:L j with
   |false=>rfl
   |true=>
    have:=reach inv.cl j j (ZP _) (inv.cl j e) i h
    rw [Xp] at this;cases this
  ·rcases hc with hc|hc
   ·rw [h1] at hc;cases hc
   ·rw [h2] at hc;cases hc
 have UL:∀ {f g:FP} {id:Nat},(f= .wr id∨f= .nw id∨∃l kc,f= .all l kc∧id∉l)→(g= .rd id∨g= .wr id∨g= .nw id∨∃l kc,g= .all l kc)→iE f g=true:=by
  intro f g id h1 h2
  rcases h1 with rfl|rfl|⟨l,kc,rfl,hl⟩<;>rcases h2 with rfl|rfl|rfl|⟨l',kc',rfl⟩<;>simp [iE]
  cases e:jQ id l
  ·rfl
  ·exact absurd (nF.1 e) hl
 have U2:∀ {f g:FP} {id:Nat},(f= .rd id∨f= .wr id∨f= .nw id∨∃l kc,f= .all l kc)→(g= .wr id∨g= .nw id∨∃l kc,g= .all l kc∧id∉l)→iE f g=true:=by
  intro f g id h1 h2
  rcases h1 with rfl|rfl|rfl|⟨l',kc',rfl⟩<;>rcases h2 with rfl|rfl|⟨l,kc,rfl,hl⟩<;>simp [iE]
  cases e:jQ id l
  ·rfl
  ·exact absurd (nF.1 e) hl
 have F1:∀y,y∈sQ ops x.o→(gJ tr t0 L ops.size)[y]? =x.t[y]? :=by
  intro y hy
  rw [om tr t0 (L:=L) (i:=y) i ops.size (by omega) (fun j z h1 h2 hz UP=>by
   rcases Nat.lt_or_eq_of_le h1 with h|h
   ·refine after h hz (.inl ?_)
    unfold share
    rw [UP]
    simp only [ZV]
    right
    simpa using hy
   ·rw [← h];exact Xp)]
  rw [kZ tr t0 (L:=L) (L':=fun _=>true) (i:=y) i (fun j z hj hz UP=>by
   refine before hj hz (.inl ?_)
   unfold share
   rw [UP]
   simp only [ZV]
   left;left
   simpa using hy),aT]
 have VX:∀y∈x.o.op.operands,cP (gJ tr t0 L ops.size) y=cP x.t y:=by
  intro y hy
  cases y with
  |tmp k=>
   have:k∈sQ ops x.o:=by
    unfold sQ I6
    refine List.mem_append.2 (.inl (List.mem_filterMap.2 ⟨.tmp k,by simpa using hy,rfl⟩))
   show List.getD _ _ _=List.getD _ _ _
   rw [ZF,ZF,F1 k this]
  |const v=>rfl
  |global g=>rfl
  |func f=>rfl
 have Tn:∀y∈x.o.op.operands,cj M (cP x.t y) (a.eval y):=fun y hy=>by rw [← VX y hy];exact oY inv.y7 y
 have F2:∀id,(x.fp= .rd id∨x.fp= .wr id∨x.fp= .nw id∨∃l kc,x.fp= .all l kc)→cY tr (bP s0) L ops.size id=bP x.s id:=by
  intro id UU
  rw [kE tr (bP s0) (L:=L) (id:=id) i ops.size (by omega) (fun j z h1 h2 hz ht=>by
   rcases Nat.lt_or_eq_of_le h1 with h|h
   ·exact after h hz (.inr (U2 UU (jg ht)))
   ·rw [← h];exact Xp)]
  rw [jJ tr (bP s0) (L:=L) (L':=fun _=>true) (id:=id) i (fun j z hj hz ht=>before hj hz (.inr (UL (jg ht) UU))),aS]
 have order:∀ {id a b:Nat} {y z:Tr},a<b→tr[a]? =some y→tr[b]? =some z→dU y id→dU z id→L b=true→L a=true:=by
  intro id a b y z hab hy hz ty tz hLb
  have hc:iE y.fp z.fp=true:=UL (jg ty) (by
   rcases jg tz with q|q|⟨l,kc,q,_⟩
   ·exact .inr (.inl q)
   ·exact .inr (.inr (.inl q))
   ·exact .inr (.inr (.inr ⟨l,kc,q⟩)))
  rcases hpair a b y z _ _ hab hy hz (Uy hy) (Uy hz) with h|⟨_,h2⟩
  ·exact reach inv.cl b b (ZP _) (inv.cl b hLb) a h
  ·rw [h2] at hc;cases hc
 have F3:∀id j,x.fp= .um id j→hY (cY tr (bP s0) L ops.size id) j=hY (bP x.s id) j:=by
  intro id j UU
  obtain ⟨m,hm1,X7⟩:∃m,(∀k y,m≤k→tr[k]? =some y→dU y id→L k=false)∧∀k y,k<m→tr[k]? =some y→dU y id→L k=true:=by
   have key:∀n,(∀k y,n≤k→tr[k]? =some y→dU y id→L k=false)→∃m,(∀k y,m≤k→tr[k]? =some y→dU y id→L k=false)∧∀k y,k<m→tr[k]? =some y→dU y id→L k=true:=by
    intro n
    induction n with
    |zero=>exact fun h=>⟨0,h,fun k y hk=>by omega⟩
    |succ n ih=>
     intro h
     by_cases hn:∃y,tr[n]? =some y∧dU y id∧L n=true
     ·obtain ⟨y,hy,ty,hLn⟩:=hn
      refine ⟨n+1,h,fun k z hk hz tz=> ?_⟩
      rcases Nat.lt_or_eq_of_le (Nat.le_of_lt_succ hk) with q|q
      ·exact order q hz hy tz ty hLn
      ·subst q;exact hLn
     ·refine ih fun k y hk hy ty=> ?_
      rcases Nat.lt_or_eq_of_le hk with q|q
      ·exact h k y q hy ty
      ·subst q
       cases e:L n with
       |false=>rfl
       |true=>exact absurd ⟨y,hy,ty,e⟩ hn
   exact key tr.length fun k y hk hy=>by rw [ZN hk] at hy;cases hy
  have still:∀k y,tr[k]? =some y→((m≤k∧k<i)∨(i≤k∧k<m))→hY (cY tr (bP s0) (fun _=>true) (k+1) id) j=hY (cY tr (bP s0) (fun _=>true) k id) j:=by
   intro k y hy hk
   by_cases ty:dU y id
   ·have Ub:iE y.fp x.fp=false∧iE x.fp y.fp=false:=by
     rcases hk with ⟨h1,h2⟩|⟨h1,h2⟩
     ·have hL:=hm1 k y h1 hy ty
      have:iE y.fp x.fp=false:=by
       cases e:iE y.fp x.fp with
       |false=>rfl
       |true=>rw [before h2 hy (.inr e)] at hL;cases hL
      refine ⟨this,?_⟩
      rw [UU] at this ⊢
      rcases jg ty with q|q|⟨l,kc,q,_⟩
      ·rw [q,show iE (.wr id) (.um id j)=true from Nat.beq_refl id] at this;cases this
      ·rw [q,show iE (.nw id) (.um id j)=true from Nat.beq_refl id] at this;cases this
      ·rw [q] at this ⊢;exact this
     ·have hL:=X7 k y h2 hy ty
      have TU:i≠k:=fun e=>by subst e;rw [Xp] at hL;cases hL
      have:iE x.fp y.fp=false:=by
       cases e:iE x.fp y.fp with
       |false=>rfl
       |true=>rw [after (by omega) hy (.inr e)] at hL;cases hL
      refine ⟨?_,this⟩
      rw [UU] at this ⊢
      rcases jg ty with q|q|⟨l,kc,q,_⟩
      ·rw [q,show iE (.um id j) (.wr id)=true from Nat.beq_refl id] at this;cases this
      ·rw [q,show iE (.um id j) (.nw id)=true from Nat.beq_refl id] at this;cases this
      ·rw [q] at this ⊢;exact this
    have hc:=Ub.2
    rw [UU] at hc
    rcases jg ty with q|q|⟨l,kc,q,hl⟩
    ·rw [q,show iE (.um id j) (.wr id)=true from Nat.beq_refl id] at hc;cases hc
    ·rw [q,show iE (.um id j) (.nw id)=true from Nat.beq_refl id] at hc;cases hc
    ·rw [q] at hc
     have Vo:(id,j)∈kc:=by
      cases e:CK id j kc with
      |true=>exact AD.1 e
      |false=>
       have e2:jQ id l=false:=by
        cases e3:jQ id l with
        |false=>rfl
        |true=>exact absurd (nF.1 e3) hl
       simp [iE,e,e2] at hc
     obtain ⟨_,hoky⟩:=oL Wp k y hy
     obtain ⟨_,yS,_,_,_,_⟩:=Um k y hy
     have Wx:=hoky.2
     unfold Tr.fp at q
     unfold Tr.QC at Wx
     cases he:y.e with
     |none=>rw [he] at q;cases q
     |some e=>
      rw [he] at q Wx
      cases e with
      |all s' d=>
       simp only at q Wx
       cases q
       have Wt:=Wx.2 id j Vo
       have e1:cY tr (bP s0) (fun _=>true) (k+1) id=bP s' id:=by
        conv=>lhs;unfold cY
        simp only [hy,he,if_neg hl]
       rw [e1,yS]
       exact Wt.symm
      |_=>cases q
   ·have e1:cY tr (bP s0) (fun _=>true) (k+1) id=cY tr (bP s0) (fun _=>true) k id:=
     kE tr (bP s0) (L:=fun _=>true) (id:=id) k (k+1) (by omega) (fun j' z h1 h2 hz tz=>by
      obtain rfl:j'=k:=by omega
      rw [hy] at hz
      obtain rfl:=ZE hz
      exact absurd tz ty)
    rw [e1]
  have walk:∀n a,(∀k,a≤k→k<a+n→(m≤k∧k<i)∨(i≤k∧k<m))→a+n≤tr.length→hY (cY tr (bP s0) (fun _=>true) (a+n) id) j=hY (cY tr (bP s0) (fun _=>true) a id) j:=by
   intro n
   induction n with
   |zero=>intro a _ _;rfl
   |succ n ih=>
    intro a h hl
    rw [← Nat.add_assoc,still (a+n) _ (List.getElem?_eq_getElem (by omega)) (h (a+n) (by omega) (by omega))]
    exact ih a (fun k h1 h2=>h k h1 (by omega)) (by omega)
  have Zo:i<tr.length:=by
   rcases ZY i tr.length with q|q
   ·exact q
   ·rw [ZN q] at hx;cases hx
  have Yy:cY tr (bP s0) L ops.size id=cY tr (bP s0) (fun _=>true) (min m tr.length) id:=by
   rw [kE tr (bP s0) (L:=L) (id:=id) (min m tr.length) ops.size (by rw [← hlen];exact Nat.min_le_right ..) (fun k y h1 h2 hy ty=>by
    rcases ZY k tr.length with q|q
    ·exact hm1 k y (by omega) hy ty
    ·rw [ZN q] at hy;cases hy)]
   exact jJ tr (bP s0) (L:=L) (L':=fun _=>true) (id:=id) _ (fun k y hk hy ty=>X7 k y (by omega) hy ty)
  rw [Yy,← aS]
  rcases Nat.le_total (min m tr.length) i with q|q
  ·have:=walk (i - min m tr.length) (min m tr.length) (fun k h1 h2=> .inl ⟨by omega,by omega⟩) (by omega)
   rw [show min m tr.length+(i - min m tr.length)=i by omega] at this
   exact this.symm
  ·have:=walk (min m tr.length - i) i (fun k h1 h2=> .inr ⟨by omega,by omega⟩) (by omega)
   rw [show i+(min m tr.length - i)=min m tr.length by omega] at this
   exact this
 have Vd:∀ {j:Nat},j≠i→j9 L i j=L j:=fun {j} h=>by simp [j9,h]
 have UB:j9 L i i=true:=by simp [j9]
 have T5:closed ops (j9 L i):=by
  intro j hj o ho e he hb
  by_cases e1:j=i
  ·subst e1
   by_cases e2:e.on=j
   ·rw [e2];exact UB
   ·rw [Vd e2];exact hp o ho e he hb
  ·rw [Vd e1] at hj
   by_cases e2:e.on=i
   ·rw [e2];exact UB
   ·rw [Vd e2];exact inv.cl j hj o ho e he hb
 have Up:∀ {M':MM} {v:Value},M.Le M'→cj M' x.val v→cA M' (gJ tr t0 (j9 L i) ops.size) (a.put x.o.dst v).tmps:=by
  intro M' v le hv
  have hl:=inv.y7.1
  rw [iz] at hl
  refine ⟨by rw [iz];cases x.o.dst<;>simp [Act.put,hl],fun y d u h1 h2=> ?_⟩
  by_cases e:x.o.dst=some y
  ·rw [om tr t0 (L:=j9 L i) (i:=y) (i+1) ops.size (by omega) (fun j z q1 q2 hz UP=>by
    rw [Vd (by omega)]
    refine after (by omega) hz (.inl ?_)
    unfold share
    rw [e]
    simp only [ZV]
    left;right
    simp [UP])] at h1
   unfold gJ at h1
   simp only [UB,hx,e,put] at h1
   rw [List.getElem?_set] at h1
   simp only [if_true] at h1
   split at h1
   ·obtain rfl:=ZE h1
    simp only [e,Act.put] at h2
    rw [Array.getElem?_setIfInBounds] at h2
    simp only [if_true] at h2
    split at h2
    ·obtain rfl:=ZE h2;exact hv
    ·cases h2
   ·cases h1
  ·rw [kZ tr t0 (L:=j9 L i) (L':=L) (i:=y) ops.size (fun j z hj hz UP=>Vd (fun q=>by subst q;rw [hx] at hz;obtain rfl:=ZE hz;exact e UP))] at h1
   have W2:a.tmps[y]? =some u:=by
    cases UP:x.o.dst with
    |none=>rw [UP] at h2;exact h2
    |some k=>
     rw [UP] at h2
     simp only [Act.put] at h2
     rw [aar (fun q=>e (by rw [UP,q]))] at h2
     exact h2
   exact (inv.y7.2 y d u h1 W2).mono le
 have TW:∀id,¬dU x id→cY tr (bP s0) (j9 L i) ops.size id=cY tr (bP s0) L ops.size id:=fun id h=>
  jJ tr (bP s0) ops.size (fun j z hj hz ht=>Vd (fun q=>by subst q;rw [hx] at hz;obtain rfl:=ZE hz;exact h ht))
 have TP:∀id,dU x id→cY tr (bP s0) (j9 L i) ops.size id=cY tr (bP s0) (j9 L i) (i+1) id:=fun id h=>
  kE tr (bP s0) (i+1) ops.size (by omega) (fun j z q1 q2 hz ht=>by
   rw [Vd (by omega)]
   refine after (by omega) hz (.inr (U2 ?_ (jg ht)))
   rcases jg h with q|q|⟨l,kc,q,_⟩
   ·exact .inr (.inl q)
   ·exact .inr (.inr (.inl q))
   ·exact .inr (.inr (.inr ⟨l,kc,q⟩)))
 have Uf:∀id,(M.box id≠none∨∃v,M.b9 id v≠none)→id<s0.length∨∃(j:Nat) (y:Tr),j9 L i j=true∧tr[j]? =some y∧y.s.length≤id∧id<y.fK.length:=by
  intro id h
  rcases inv.live id h with q|⟨j,y,q1,q2,q3,q4⟩
  ·exact .inl q
  ·exact .inr ⟨j,y,by by_cases e:j=i<;>simp [j9,e,q1],q2,q3,q4⟩
 have Vw:∀id,(x.fp= .wr id∨∃l kc,x.fp= .all l kc)→id<x.s.length→id<s0.length∨∃(j:Nat) (y:Tr),j9 L i j=true∧tr[j]? =some y∧y.s.length≤id∧id<y.fK.length:=by
  intro id UU T1
  rcases ZY id s0.length with q|q
  ·exact .inl q
  ·obtain ⟨j,y,b1,b2,b3,b4⟩:=a6 id q T1
   refine .inr ⟨j,y,?_,b2,b3,b4⟩
   rw [Vd (by omega)]
   refine before b1 b2 (.inr ?_)
   rcases Fq b3 b4 with h|⟨l,kc,h⟩
   ·refine UL (id:=id) (.inr (.inl h)) ?_
    rcases UU with h|h
    ·exact .inr (.inl h)
    ·exact .inr (.inr (.inr h))
   ·rcases UU with h2|⟨l2,kc2,h2⟩<;>rw [h,h2]<;>rfl
 have WR:∀ {e0:jT},x.e=some e0→jY P x.o (cP x.t) x.s e0→Md P x.o a w K Q:=by
  intro e0 he h0
  have TI:x.val=e0.val x.s.length:=by unfold Tr.val;rw [he]
  cases e0 with
  |pure d=>
   have W4:∀id,¬dU x id:=fun id h=>by unfold dU at h;rw [he] at h;exact h
   refine h0 w0 M own _ w a x.s.length inv.rel Tn trivial K Q fun v M' Tj w' le ad Uo hr=>hK M' Tj w' _ ⟨T5,?_,Up le (by rw [TI];exact hr),by rw [eD];exact inv.defers,?_,inv.le.trans le⟩
   ·rw [show cY tr (bP s0) (j9 L i) ops.size=cY tr (bP s0) L ops.size from funext fun id=>TW id (W4 id)];exact Uo
   ·intro id h;rw [ad.1,ad.2] at h;exact Uf id h
  |read k ob d=>
   have W4:∀id,¬dU x id:=fun id h=>by unfold dU at h;rw [he] at h;exact h
   have UU:x.fp= .rd k:=by unfold Tr.fp;rw [he]
   refine h0.2 w0 M own _ w a x.s.length inv.rel Tn (by show cY _ _ _ _ k=ob;rw [F2 k (.inl UU)];exact h0.1.1) K Q fun v M' Tj w' le ad Uo hr=>hK M' Tj w' _ ⟨T5,?_,Up le (by rw [TI];exact hr),by rw [eD];exact inv.defers,?_,inv.le.trans le⟩
   ·rw [show cY tr (bP s0) (j9 L i) ops.size=cY tr (bP s0) L ops.size from funext fun id=>TW id (W4 id)];exact Uo
   ·intro id h;rw [ad.1,ad.2] at h;exact Uf id h
  |ji k jc d=>
   have W4:∀id,¬dU x id:=fun id h=>by unfold dU at h;rw [he] at h;exact h
   have UU:x.fp= .um k jc:=by unfold Tr.fp;rw [he]
   refine h0.2 w0 M own _ w a x.s.length inv.rel Tn (by show hY (cY _ _ _ _ k) jc=some d;rw [F3 k jc UU];exact h0.1.1) K Q fun v M' Tj w' le ad Uo hr=>hK M' Tj w' _ ⟨T5,?_,Up le (by rw [TI];exact hr),by rw [eD];exact inv.defers,?_,inv.le.trans le⟩
   ·rw [show cY tr (bP s0) (j9 L i) ops.size=cY tr (bP s0) L ops.size from funext fun id=>TW id (W4 id)];exact Uo
   ·intro id h;rw [ad.1,ad.2] at h;exact Uf id h
  |gQ k ob ob' d=>
   have UU:x.fp= .wr k:=by unfold Tr.fp;rw [he]
   have Yv:dU x k:=by unfold dU;rw [he]
   refine h0.2 w0 M own _ w a x.s.length inv.rel Tn (by show cY _ _ _ _ k=ob;rw [F2 k (.inr (.inl UU))];exact h0.1.1) K Q fun v M' Tj w' le ad Uo hr=>hK M' Tj w' _ ⟨T5,?_,Up le (by rw [TI];exact hr),by rw [eD];exact inv.defers,?_,inv.le.trans le⟩
   ·rw [show cY tr (bP s0) (j9 L i) ops.size=jT.post (.gQ k ob ob' d) (cY tr (bP s0) L ops.size) x.s.length from funext fun id=>by
     by_cases e:id=k
     ·subst e
      rw [TP id Yv]
      unfold cY
      simp only [UB,hx,he,jT.post,bG]
     ·rw [TW id (fun h=>by unfold dU at h;rw [he] at h;exact e h)]
      simp only [jT.post,bC e]]
    exact Uo
   ·intro id h
    by_cases e:id=k
    ·subst e;exact Vw id (.inl UU) h0.1.2
    ·rw [ad.1,ad.2 id e] at h;exact Uf id h
  |new ob mk=>
   have Yv:dU x x.s.length:=by unfold dU;rw [he]
   have WI:x.fK.length=x.s.length+1:=by unfold Tr.fK;rw [he];simp
   have U4:¬(M.box x.s.length≠none∨∃v,M.b9 x.s.length v≠none):=by
    intro h
    rcases inv.live _ h with q|⟨j,y,q1,q2,q3,q4⟩
    ·omega
    ·rcases Nat.lt_trichotomy j i with c|c|c
     ·have:=a5 j y c q2;omega
     ·subst c;rw [Xp] at q1;cases q1
     ·have:=(Um j y q2).2.2.2.2.1 i x c hx;omega
   have Xm:M.box x.s.length=none:=by
    cases e:M.box x.s.length with
    |none=>rfl
    |some b=>exact absurd (.inl (by rw [e];simp)) U4
   have WM:∀v,M.b9 x.s.length v=none:=fun v=>by
    cases e:M.b9 x.s.length v with
    |none=>rfl
    |some b=>exact absurd (.inr ⟨v,by rw [e];simp⟩) U4
   refine h0 w0 M own _ w a x.s.length inv.rel Tn ⟨Xm,WM⟩ K Q fun v M' Tj w' le ad Uo hr=>hK M' Tj w' _ ⟨T5,?_,Up le (by rw [TI];exact hr),by rw [eD];exact inv.defers,?_,inv.le.trans le⟩
   ·rw [show cY tr (bP s0) (j9 L i) ops.size=jT.post (.new ob mk) (cY tr (bP s0) L ops.size) x.s.length from funext fun id=>by
     by_cases e:id=x.s.length
     ·subst e
      rw [TP _ Yv]
      unfold cY
      simp only [UB,hx,he,jT.post,bG]
     ·rw [TW id (fun h=>by unfold dU at h;rw [he] at h;exact e h)]
      simp only [jT.post,bC e]]
    exact Uo
   ·intro id h
    by_cases e:id=x.s.length
    ·exact .inr ⟨i,x,UB,hx,by omega,by omega⟩
    ·rw [ad.1 id e,ad.2 id e] at h;exact Uf id h
  |all s' d=>
   have UU:x.fp= .all x.k x.kc:=by unfold Tr.fp;rw [he]
   have hta:∀id,id∉x.k→dU x id:=fun id hk=>by unfold dU;rw [he];exact hk
   have Wn:∀id∈x.k,id<x.s.length∧x.s.getD id .dead=s'.getD id .dead:=by have:=TY.2;unfold Tr.QC at this;rw [he] at this;exact this.1
   have WI:x.fK=s':=by unfold Tr.fK;rw [he]
   have Yr:cn w0 M own (bP x.s) w:=by
    rw [← show cY tr (bP s0) L ops.size=bP x.s from funext fun id=>F2 id (.inr (.inr (.inr ⟨_,_,UU⟩)))];exact inv.rel
   have Ue:∀id,x.s.length≤id→¬(M.box id≠none∨∃v,M.b9 id v≠none):=by
    intro id T1 h
    rcases inv.live _ h with q|⟨j,y,q1,q2,q3,q4⟩
    ·omega
    ·have hy:y.fp= .nw id∨∃l kc,y.fp= .all l kc:=Fq q3 q4
     rcases Nat.lt_trichotomy j i with c|c|c
     ·have:=a5 j y c q2;omega
     ·subst c;rw [Xp] at q1;cases q1
     ·have:=after c q2 (.inr (by rw [UU];rcases hy with h|⟨l,kc,h⟩<;>rw [h]<;>rfl))
      rw [q1] at this;cases this
   have Vg:M.upto x.s.length:=by
    refine ⟨fun id T1=> ?_,fun id v T1=> ?_⟩
    ·cases e:M.box id with
     |none=>rfl
     |some b=>exact absurd (.inl (by rw [e];simp)) (Ue id T1)
    ·cases e:M.b9 id v with
     |none=>rfl
     |some b=>exact absurd (.inr ⟨v,by rw [e];simp⟩) (Ue id T1)
   refine h0.2 w0 M own w a Yr Vg Tn K Q fun v M' Tj w' le up Uo hr=>hK M' Tj w' _ ⟨T5,?_,Up le (by rw [TI];exact hr),by rw [eD];exact inv.defers,?_,inv.le.trans le⟩
   ·rw [show cY tr (bP s0) (j9 L i) ops.size=bP s' from funext fun id=>by
     by_cases e1:id∈x.k
     ·rw [TW id (fun h=>by unfold dU at h;rw [he] at h;exact h e1),F2 id (.inr (.inr (.inr ⟨_,_,UU⟩)))]
      exact (Wn id e1).2
     ·rw [TP id (hta id e1)]
      unfold cY
      simp only [UB,hx,he,if_neg e1]]
    exact Uo
   ·intro id h
    have Tq:id<s'.length:=by
     rcases ZY id s'.length with q|q
     ·exact q
     ·rcases h with h|⟨v,h⟩
      ·exact absurd (up.1 id q) h
      ·exact absurd (up.2 id v q) h
    rcases ZY id x.s.length with q|q
    ·exact Vw id (.inr ⟨_,_,UU⟩) q
    ·exact .inr ⟨i,x,UB,hx,q,by rw [WI];exact Tq⟩
 unfold wpOpIn
 rw [Vm]
 simp only []
 replace TY:=TY.1
 unfold Tr.MK at TY
 split at TY
 ·rename_i hg
  obtain ⟨e0,he,h0⟩:=TY
  have:aaA x.o (yielded ops a.tmps)=true:=by simp [aaA,hg]
  rw [if_pos this]
  exact WR he h0 rr
 ·rename_i j want hg
  have VB:∀k,(ops[j]?).bind (·.dst)=some k→cj M (x.t.getD k .undef) (a.tmps.getD k undef):=by
   intro k hk
   have:k∈sQ ops x.o:=by
    unfold sQ
    refine List.mem_append.2 (.inr ?_)
    rw [hg]
    cases hq:ops[j]? with
    |none=>rw [hq] at hk;cases hk
    |some q=>
     rw [hq] at hk
     simp only [aaW] at hk
     simp only [hq,hk]
     simp
   have h1:=ka inv.y7 k
   rw [ZF,F1 k this,← ZF] at h1
   exact h1
  have skip:x.e=none→aaA x.o (yielded ops a.tmps)=false→(if aaA x.o (yielded ops a.tmps) then x.o.wpIn (FW rr) 0 P a w K Q else (∀f,x.o.about P w a.eval=some f→(FW rr).fn f)∧K (a.put x.o.dst undef) w):=by
   intro he this
   rw [this]
   refine ⟨fun _ _=>trivial,?_⟩
   have W4:∀id,¬dU x id:=fun id h=>by unfold dU at h;rw [he] at h;exact h
   have TI:x.val= .aL []:=by unfold Tr.val;rw [he]
   refine hK M own w _ ⟨T5,?_,Up (.refl M) (by rw [TI];exact sr),by rw [eD];exact inv.defers,Uf,inv.le⟩
   rw [show cY tr (bP s0) (j9 L i) ops.size=cY tr (bP s0) L ops.size from funext fun id=>TW id (W4 id)]
   exact inv.rel
  rcases TY with ⟨b,hb,TV⟩|⟨hb,he⟩
  ·have hy:yielded ops a.tmps j=some b:=vd (M:=M) (t:=x.t) VB hb
   rcases TV with ⟨rfl,e0,he,h0⟩|⟨TU,he⟩
   ·have:aaA x.o (yielded ops a.tmps)=true:=by simp [aaA,hg,hy]
    rw [if_pos this]
    exact WR he h0 rr
   ·exact skip he (by simp [aaA,hg,hy,TU])
  ·have hy:yielded ops a.tmps j=none:=qz (M:=M) (t:=x.t) VB hb
   exact skip he (by simp [aaA,hg,hy])
theorem pV {Tk:Array Bool} (hl:Tk.size=ops.size) (i:Nat):i∈Region.ready .any ops Tk↔i<ops.size∧Tk.getD i false=false∧EM ops (fun j=>Tk.getD j false) i:=by
 unfold Region.ready
 rw [List.mem_filter,List.mem_range]
 constructor
 ·rintro ⟨h1,h2⟩
  have ho:ops[i]? =some ops[i]:=by simp [h1]
  rw [ho] at h2
  simp only [aaT,aay,ZD,Z8,Array.all_eq_true_iff_forall_mem] at h2
  refine ⟨h1,?_,?_⟩
  ·have:=h2.1
   rw [Z7] at this ⊢
   cases e:Tk[i]? with
   |none=>rfl
   |some b=>rw [e] at this;exact this
  ·intro o XJ e he hb
   rw [ho] at XJ
   obtain rfl:=ZE XJ
   have:=h2.2 e (by simpa using he)
   rw [hb] at this
   simpa using this
 ·rintro ⟨h1,h2,h3⟩
  refine ⟨h1,?_⟩
  have ho:ops[i]? =some ops[i]:=by simp [h1]
  rw [ho]
  simp only [aaT,aay,ZD,Z8,Array.all_eq_true_iff_forall_mem]
  refine ⟨?_,fun e he=> ?_⟩
  ·rw [Z7] at h2 ⊢
   have:Tk[i]? =some Tk[i]:=by simp [hl,h1]
   rw [this] at h2 ⊢
   exact h2
  ·cases hb:Region.binds .any e with
   |false=>rfl
   |true=>
    have:=h3 _ ho e (by simpa using he) hb
    simpa using this
theorem Lt (Wp:Trace P ops ops.toList t0 s0 tr tn sn) (hd:oj ops ((tr.map Tr.fp).reverse++ [])=true) {Q:Exit→Act→World→Prop}
  (hq:∀M' Tj w' a',M0.Le M'→M'.upto sn.length→cn w0 M' Tj (bP sn) w'→cA M' tn a'.tmps→a'.defers=df→Q .normal a' w') (rr:Option Nat):
  ∀(fuel:Nat) (Tk:Array Bool) (M:MM) (own:Nat→Option Nat) (w:World) (a:Act),Tk.size=ops.size→Tk.toList.count false≤fuel→NQ df P ops t0 s0 tr w0 M0 (fun j=>Tk.getD j false) M own w a→wpAnyIn (FW rr) 0 P .any ops Q fuel Tk a w:=by
 obtain ⟨hlen,hedge,_⟩:=tE hd
 obtain ⟨Um,hT,hS⟩:=tG Wp
 have fin:∀ {Tk:Array Bool} {M:MM} {own:Nat→Option Nat} {w:World} {a:Act},(∀j,j<ops.size→Tk.getD j false=true)→NQ df P ops t0 s0 tr w0 M0 (fun j=>Tk.getD j false) M own w a→Q .normal a w:=by
  intro Tk M own w a Vc inv
  have e1:gJ tr t0 (fun j=>Tk.getD j false) ops.size=tn:=by
   rw [← hT,hlen]
   apply List.ext_getElem?
   intro k
   exact kZ tr t0 ops.size (fun j x hj _ _=>Vc j hj)
  have e2:cY tr (bP s0) (fun j=>Tk.getD j false) ops.size=bP sn:=by
   rw [← hS,hlen]
   funext id
   exact jJ tr (bP s0) ops.size (fun j x hj _ _=>Vc j hj)
  have Ue:∀id,sn.length≤id→¬(M.box id≠none∨∃v,M.b9 id v≠none):=by
   intro id T1 h
   rcases inv.live _ h with q|⟨j,y,q1,q2,q3,q4⟩
   ·have:=kj Wp;omega
   ·have:=(Um j y q2).2.2.2.1;omega
  refine hq M own w a inv.le ⟨fun id T1=> ?_,fun id v T1=> ?_⟩ (e2▸inv.rel) (e1▸inv.y7) inv.defers
  ·cases e:M.box id with
   |none=>rfl
   |some b=>exact absurd (.inl (by rw [e];simp)) (Ue id T1)
  ·cases e:M.b9 id v with
   |none=>rfl
   |some b=>exact absurd (.inr ⟨v,by rw [e];simp⟩) (Ue id T1)
 have nothing:∀ {Tk:Array Bool},Tk.size=ops.size→Region.ready .any ops Tk= []→∀j,j<ops.size→Tk.getD j false=true:=by
  intro Tk hl hr j
  induction j using Nat.strongRecOn with
  |_ j ih=>
   intro hj
   cases e:Tk.getD j false with
   |true=>rfl
   |false=>
    have:j∈Region.ready .any ops Tk:=(pV hl j).2 ⟨hj,e,fun o ho ed he hb=>ih ed.on (hedge j o ho ed he hb) (by have:=hedge j o ho ed he hb;omega)⟩
    rw [hr] at this
    cases this
 intro fuel
 induction fuel with
 |zero=>
  intro Tk M own w a hl hc inv
  have Vc:∀j,j<ops.size→Tk.getD j false=true:=by
   intro j hj
   have h0:Tk.toList.count false=0:=by omega
   rw [List.count_eq_zero] at h0
   have YX:j<Tk.size:=by omega
   rw [Z7]
   have:Tk[j]? =some Tk[j]:=by simp [YX]
   rw [this]
   cases e:Tk[j] with
   |true=>simp
   |false=>exact absurd (by rw [← e];simp) h0
  refine ⟨?_,fin Vc inv⟩
  apply List.eq_nil_iff_forall_not_mem.2
  intro i hi
  have:=(pV hl i).1 hi
  rw [Vc i this.1] at this
  exact absurd this.2.1 (by simp)
 |succ fuel ih=>
  intro Tk M own w a hl hc inv
  refine ⟨fun hr=>fin (nothing hl hr) inv,fun i hi=> ?_⟩
  obtain ⟨h1,h2,h3⟩:=(pV hl i).1 hi
  have hx:tr[i]? =some (tr[i]'(by omega)):=by simp [show i<tr.length by omega]
  refine F6 Wp hd inv hx h2 h3 (fun M' Tj w' a' YW=>ih _ M' Tj w' a' (by simp [hl]) ?_ ?_) rr
  ·have Tq:i<Tk.toList.length:=by simp [hl,h1]
   have Uv:Tk.toList[i]=false:=by
    rw [Z7] at h2
    have:Tk[i]? =some Tk[i]:=by simp [hl,h1]
    rw [this] at h2
    simpa using h2
   have Wj:(Tk.setIfInBounds i true).toList=Tk.toList.set i true:=by simp
   rw [Wj,List.count_set Tq]
   have TX:0<Tk.toList.count false:=List.count_pos_iff.2 (by rw [← Uv];simp)
   rw [Uv]
   rw [show (if (false==false)=true then 1 else 0)=1 from rfl,show (if (true==false)=true then 1 else 0)=0 from rfl]
   omega
  ·have:(fun j=>(Tk.setIfInBounds i true).getD j false)=j9 (fun j=>Tk.getD j false) i:=by
    funext j
    unfold j9
    simp only [Z7]
    by_cases e:j=i
    ·subst e;simp [hl,h1]
    ·rw [aar (Ne.symm e),if_neg e]
   rw [this]
   exact YW
theorem zY (Wp:Trace P ops ops.toList t0 s0 tr tn sn) (hd:oj ops ((tr.map Tr.fp).reverse++ [])=true) (hm:P.follows .mixedOrders=true) {M:MM} {own:Nat→Option Nat} {w:World} {a:Act} (id:Nat)
  (hw:cn w0 M own (bP s0) w) (hu:M.upto s0.length) (ht:cA M t0 a.tmps) (YV:a.defers=df) {Q:Exit→Act→World→Prop} (rr:Option Nat)
  (hq:∀M' Tj w' a',M.Le M'→M'.upto sn.length→cn w0 M' Tj (bP sn) w'→cA M' tn a'.tmps→a'.defers=df→Q .normal a' w'):(Code.region id ops true).wpIn (FW rr) 0 P Q a w:=by
 refine wpIn_region_any hm (Lt (w0:=w0) (M0:=M) Wp hd hq rr ops.size _ M own _ a (by simp) ?_ ?_)
 ·rw [Array.toList_replicate];simp
 ·have hL:∀j,(Array.replicate ops.size false).getD j false=false:=fun j=>by
   rw [Z7,Array.getElem?_replicate]
   split<;>rfl
  have eT:∀k,gJ tr t0 (fun j=>(Array.replicate ops.size false).getD j false) k=t0:=by
   intro k
   induction k with
   |zero=>rfl
   |succ k ih=>unfold gJ;simp only [hL k];exact ih
  have eS:∀k,cY tr (bP s0) (fun j=>(Array.replicate ops.size false).getD j false) k=bP s0:=by
   intro k
   induction k with
   |zero=>rfl
   |succ k ih=>unfold cY;simp only [hL k];exact ih
  refine ⟨fun j hj=> ?_,?_,?_,YV,?_,.refl M⟩
  ·rw [hL j] at hj;cases hj
  ·rw [eS];exact hw.drew
  ·rw [eT];exact ht
  ·intro id h
   left
   rcases ZY id s0.length with q|q
   ·exact q
   ·rcases h with h|⟨v,h⟩
    ·exact absurd (hu.1 id q) h
    ·exact absurd (hu.2 id v q) h
end
end Go.Ev
