import Derived.Test.YtbfpahigdpigpaaGreatM02
/- Contracts and plain laws that a statement's proof leans on (texts merged:EvN). -/
set_option linter.unusedVariables false
set_option linter.unusedSimpArgs false
namespace Go.Ev
open Go Go.RowKit
section
variable {ρ':Type}
mutual
theorem force_eq:∀(d:D) (K:D→Option ρ'),force d K=K d
  | .undef,K=>by simp [force]
  | .int _ _,K=>by simp [force]
  | .bool _,K=>by simp [force]
  | .str _,K=>by simp [force]
  | .gD,K=>by simp [force]
  | .ptr _ _ _,K=>by simp [force]
  | .dN _ _ _,K=>by simp [force]
  | .dM _,K=>by simp [force]
  | .iq _,K=>by simp [force]
  | .dn _ _ _,K=>by simp [force]
  | .sub _ _ _ _ _,K=>by simp [force]
  | .aj _ _ _,K=>by simp [force]
  | .aq,K=>by simp [force]
  | .fn f a b,K=>by rw [force,eY,eY]
  | .agg cs,K=>by rw [force,eY]
  | .aA cs,K=>by rw [force,eY]
theorem eY:∀(l:List D) (K:List D→Option ρ'),gx l K=K l
  | [],K=>by simp [gx]
  |d::r,K=>by rw [gx,force_eq,eY]
end
theorem ya:∀(l:List D) (i:Nat) (d:D) (K:List D→Option ρ'),zh l i d K=K (l.set i d)
 | [],i,d,K=>by simp [zh]
 |a::r,0,d,K=>by simp [zh]
 |a::r,i+1,d,K=>by rw [zh,ya];rfl
theorem iQ (t:List D) (dst:Option Nat) (d:D) (K:List D→Option ρ'):lB t dst d K=K (put t dst d):=by
 cases dst with
 |none=>rfl
 |some i=>simp only [lB,force_eq,ya,put]
theorem gn:∀(l:List Ob) (i:Nat) (d:Ob) (K:List Ob→Option ρ'),iP l i d K=K (l.set i d)
 | [],i,d,K=>by simp [iP]
 |a::r,0,d,K=>by simp [iP]
 |a::r,i+1,d,K=>by rw [iP,gn];rfl
theorem pO:∀(es:List (List D×D)) (K:List (List D×D)→Option ρ'),oB es K=K es
 | [],_=>rfl
 |(n,d)::r,K=>by simp [oB,eY,force_eq,pO r]
theorem wU (o:Ob) (K:Ob→Option ρ'):sZ o K=K o:=by cases o<;>simp [sZ,eY,pO]
theorem pN {ρ':Type} {P:Program} {r:ρ'} {z:Z P} {o:Ob} {k:Z P→Ob→Option ρ'} (h:nk z o k=some r):∃z',k z' o=some r∧(z'.c→z.c):=by
 unfold nk at h
 split at h
 ·exact ⟨_,h,id⟩
 ·rw [wU] at h
  exact ⟨_,h,id⟩
theorem m4:∀(l:List Ob) (o:Ob) (K:List Ob→Option ρ'),lR l o K=K (l++ [o])
 | [],o,K=>by simp [lR]
 |a::r,o,K=>by rw [lR,m4];rfl
end
structure Tr where
  o:Oper
  t:List D
  s:List Ob
  e:Option ig
  k:List Nat
  kc:List (Nat×Nat)
def Tr.val (x:Tr):D:=match x.e with|none=> .aA []|some e=>e.val x.s.length
def Tr.yn (x:Tr):List D:=put x.t x.o.dst x.val
def Tr.dS (x:Tr):List Ob:=match x.e with
  |some (.dJ i _ o' _)=>x.s.set i o'
  |some (.new o' _)=>x.s++ [o']
  |some (.all s' _)=>s'
  |_=>x.s
def Tr.fp (x:Tr):FP:=match x.e with
  |some (.read i _ _)=> .rd i
  |some (.gr i j _)=> .qq i j
  |some (.dJ i _ _ _)=> .wr i
  |some (.new _ _)=> .nw x.s.length
  |some (.all _ _)=> .all x.k x.kc
  |_=> .FV
def Tr.G8 (x:Tr):Prop:=match x.e with
  |some (.all s' _)=>(∀i∈x.k,i<x.s.length∧x.s.getD i .dead=s'.getD i .dead)∧∀i j,(i,j)∈x.kc→fe (x.s.getD i .dead) j=fe (s'.getD i .dead) j
  |_=>True
def Tr.D4 (P:Program) (ops:Array Oper) (x:Tr):Prop:=
  match x.o.guard with
  |none=> ∃e,x.e=some e∧ie P x.o (bI x.t) x.s e
  |some (j,want)=>(∃b,iG ops x.t j= .bool b∧((b=want∧∃e,x.e=some e∧ie P x.o (bI x.t) x.s e)∨(b≠want∧x.e=none)))∨(iG ops x.t j= .aA []∧x.e=none)
def Tr.ok (P:Program) (ops:Array Oper) (x:Tr):Prop:=x.D4 P ops∧x.G8
theorem ng {s s':List Ob} :∀(l:List (Nat×Ob)) {c:Prop},pE s.length l=true→yB s s' l c→c∧∀i∈kY l,i<s.length∧s.getD i .dead=s'.getD i .dead
 | [],c,_,h=>⟨h,fun i hi=>by simp [kY] at hi⟩
 |(i,o)::r,c,hl,h=>by
  simp only [pE] at hl
  split at hl
  ·rename_i hlt
   obtain ⟨⟨⟨h1,h2⟩,h3⟩,h4⟩:=ng r hl h
   refine ⟨h3,fun j hj=> ?_⟩
   rw [kY,List.mem_cons] at hj
   rcases hj with rfl|hj
   ·exact ⟨Nat.lt_of_succ_le (by simpa [Nat.blt,Nat.ble_eq] using hlt),h1.symm.trans h2⟩
   ·exact h4 j hj
  ·cases hl
theorem rC {s s':List Ob} :∀(l:List (Nat×Nat×D)) {c:Prop},Dn s s' l c→c∧∀i j,(i,j)∈mJ l→fe (s.getD i .dead) j=fe (s'.getD i .dead) j
 | [],c,h=>⟨h,fun i j hi=>by simp [mJ] at hi⟩
 |(i,j,d)::r,c,h=>by
  obtain ⟨⟨⟨h1,h2⟩,h3⟩,h4⟩:=rC r h
  refine ⟨h3,fun a b hj=> ?_⟩
  rw [mJ,List.mem_cons] at hj
  rcases hj with e|hj
  ·cases e;exact h1.symm.trans h2
  ·exact h4 a b hj
theorem AJ {ρ':Type} {P:Program} {r:ρ'} {z:Z P} {s s':List Ob} {k:Z P→List Nat→List (Nat×Nat)→Option ρ'} (h:yz z s s' k=some r):∃z' l kc,k z' l kc=some r∧(z'.c→z.c∧(∀i∈l,i<s.length∧s.getD i .dead=s'.getD i .dead)∧∀i j,(i,j)∈kc→fe (s.getD i .dead) j=fe (s'.getD i .dead) j):=by
 unfold yz at h
 split at h
 ·rename_i l rest hz
  obtain ⟨hl,h⟩:=aY h
  refine ⟨_,_,_,h,fun hc=> ?_⟩
  obtain ⟨h1,h2⟩:=ng l hl hc
  exact ⟨h1,h2,fun i j hi=>by simp at hi⟩
 ·rename_i cs l rest hz
  obtain ⟨hl,h⟩:=aY h
  refine ⟨_,_,_,h,fun hc=> ?_⟩
  obtain ⟨h0,h3⟩:=rC cs hc
  obtain ⟨h1,h2⟩:=ng l hl h0
  exact ⟨h1,h2,h3⟩
 ·exact ⟨z,[],[],h,fun c=>⟨c,fun i hi=>by simp at hi,fun i j hi=>by simp at hi⟩⟩
def Trace (P:Program) (ops:Array Oper):List Oper→List D→List Ob→List Tr→List D→List Ob→Prop
  | [],t,s,tr,t',s'=>tr= []∧t'=t∧s'=s
  |o::rest,t,s,tr,t',s'=> ∃x xs,tr=x::xs∧x.o=o∧x.t=t∧x.s=s∧x.ok P ops∧Trace P ops rest x.yn x.dS xs t' s'
theorem eR {ρ':Type} {P:Program} {r:ρ'} {inl:yN P ρ'} (hinl:jB P inl) {ops:Array Oper} :∀ {rest:List Oper} {t:List D} {s:List Ob} {fps:List FP} {z:Z P} {K:List D→List Ob→List FP→Z P→Option ρ'},kr P inl ops rest t s fps z K=some r→
  ∃tr t' s' z',K t' s' ((tr.map Tr.fp).reverse++fps) z'=some r∧(z'.c→z.c∧Trace P ops rest t s tr t' s')
 | [],t,s,fps,z,K,h=>⟨[],t,s,z,h,fun c=>⟨c,rfl,rfl,rfl⟩⟩
 |o::rest,t,s,fps,z,K,h=>by
  have run:∀ {z:Z P} {want:Prop},(Hr P inl o t s z fun z e=>match e with
    | .pure d=>lB t o.dst d fun t'=>kr P inl ops rest t' s (.FV::fps) z K
    | .read id _ d=>lB t o.dst d fun t'=>kr P inl ops rest t' s (.rd id::fps) z K
    | .gr id j d=>lB t o.dst d fun t'=>kr P inl ops rest t' s (.qq id j::fps) z K
    | .dJ id _ o' d=>lB t o.dst d fun t'=>nk z o' fun z o2=>iP s id o2 fun s'=>kr P inl ops rest t' s' (.wr id::fps) z K
    | .new o' mk=>lB t o.dst (mk s.length) fun t'=>nk z o' fun z o2=>lR s o2 fun s'=>kr P inl ops rest t' s' (.nw s.length::fps) z K
    | .all s' d=>lB t o.dst d fun t'=>yz z s s' fun z l kc=>kr P inl ops rest t' s' (.all l kc::fps) z K)=some r→
    ∃e l kc tr t' s' z',K t' s' ((tr.map Tr.fp).reverse++((⟨o,t,s,some e,l,kc⟩:Tr).fp::fps)) z'=some r∧(z'.c→z.c∧ie P o (bI t) s e∧(⟨o,t,s,some e,l,kc⟩:Tr).G8∧Trace P ops rest (⟨o,t,s,some e,l,kc⟩:Tr).yn (⟨o,t,s,some e,l,kc⟩:Tr).dS tr t' s'):=by
   intro z want h
   obtain ⟨e,z1,h1,h2⟩:=D2 hinl h
   cases e with
   |pure d=>
    simp only [iQ] at h1
    obtain ⟨tr,t',s',z',k1,k2⟩:=eR hinl h1
    exact ⟨.pure d,[],[],tr,t',s',z',k1,fun c=>⟨(h2 (k2 c).1).1,(h2 (k2 c).1).2,trivial,(k2 c).2⟩⟩
   |read i ob d=>
    simp only [iQ] at h1
    obtain ⟨tr,t',s',z',k1,k2⟩:=eR hinl h1
    exact ⟨.read i ob d,[],[],tr,t',s',z',k1,fun c=>⟨(h2 (k2 c).1).1,(h2 (k2 c).1).2,trivial,(k2 c).2⟩⟩
   |gr i j d=>
    simp only [iQ] at h1
    obtain ⟨tr,t',s',z',k1,k2⟩:=eR hinl h1
    exact ⟨.gr i j d,[],[],tr,t',s',z',k1,fun c=>⟨(h2 (k2 c).1).1,(h2 (k2 c).1).2,trivial,(k2 c).2⟩⟩
   |dJ i ob ob' d=>
    simp only [iQ] at h1
    obtain ⟨z2,h3,h4⟩:=pN h1
    rw [gn] at h3
    obtain ⟨tr,t',s',z',k1,k2⟩:=eR hinl h3
    exact ⟨.dJ i ob ob' d,[],[],tr,t',s',z',k1,fun c=>⟨(h2 (h4 (k2 c).1)).1,(h2 (h4 (k2 c).1)).2,trivial,(k2 c).2⟩⟩
   |new ob mk=>
    simp only [iQ] at h1
    obtain ⟨z2,h3,h4⟩:=pN h1
    rw [m4] at h3
    obtain ⟨tr,t',s',z',k1,k2⟩:=eR hinl h3
    exact ⟨.new ob mk,[],[],tr,t',s',z',k1,fun c=>⟨(h2 (h4 (k2 c).1)).1,(h2 (h4 (k2 c).1)).2,trivial,(k2 c).2⟩⟩
   |all s2 d=>
    simp only [iQ] at h1
    obtain ⟨z2,l,kc,h3,h4⟩:=AJ h1
    obtain ⟨tr,t',s',z',k1,k2⟩:=eR hinl h3
    exact ⟨.all s2 d,l,kc,tr,t',s',z',k1,fun c=>⟨(h2 (h4 (k2 c).1).1).1,(h2 (h4 (k2 c).1).1).2,(h4 (k2 c).1).2,(k2 c).2⟩⟩
  unfold kr at h
  simp only at h
  split at h
  ·rename_i hg
   obtain ⟨e,l,kc,tr,t',s',z',k1,k2⟩:=run (want:=True) h
   refine ⟨⟨o,t,s,some e,l,kc⟩::tr,t',s',z',by simpa using k1,fun c=>⟨(k2 c).1,_,_,rfl,rfl,rfl,rfl,⟨?_,(k2 c).2.2.1⟩,(k2 c).2.2.2⟩⟩
   simp only [Tr.D4,hg]
   exact ⟨e,rfl,(k2 c).2.1⟩
  ·rename_i j want hg
   split at h
   ·rename_i b hb
    obtain ⟨z1,⟨h1,h2⟩|⟨h1,h2⟩⟩:=jU h
    ·obtain ⟨e,l,kc,tr,t',s',z',k1,k2⟩:=run (want:=True) h1
     refine ⟨⟨o,t,s,some e,l,kc⟩::tr,t',s',z',by simpa using k1,fun c=>⟨(h2 (k2 c).1).1,_,_,rfl,rfl,rfl,rfl,⟨?_,(k2 c).2.2.1⟩,(k2 c).2.2.2⟩⟩
     simp only [Tr.D4,hg]
     exact .inl ⟨b,hb,.inl ⟨by simpa using (h2 (k2 c).1).2,e,rfl,(k2 c).2.1⟩⟩
    ·rw [iQ] at h1
     obtain ⟨tr,t',s',z',k1,k2⟩:=eR hinl h1
     refine ⟨⟨o,t,s,none,[],[]⟩::tr,t',s',z',by simpa [Tr.fp] using k1,fun c=>⟨(h2 (k2 c).1).1,_,_,rfl,rfl,rfl,rfl,⟨?_,trivial⟩,(k2 c).2⟩⟩
     simp only [Tr.D4,hg]
     exact .inl ⟨b,hb,.inr ⟨by simpa using (h2 (k2 c).1).2,trivial⟩⟩
   ·rename_i hb
    rw [iQ] at h
    obtain ⟨tr,t',s',z',k1,k2⟩:=eR hinl h
    refine ⟨⟨o,t,s,none,[],[]⟩::tr,t',s',z',by simpa [Tr.fp] using k1,fun c=>⟨(k2 c).1,_,_,rfl,rfl,rfl,rfl,⟨?_,trivial⟩,(k2 c).2⟩⟩
    simp only [Tr.D4,hg]
    exact .inr ⟨hb,trivial⟩
   ·cases h
theorem hH {M M':MM} (le:M.Le M') {t:List D} {a:Act} (h:bS M t a.tmps) {dst:Option Nat} {d:D} {v:Value} (hr:bk M' d v):bS M' (put t dst d) (a.put dst v).tmps:=by
 cases dst with
 |none=>exact h.mono le
 |some i=>
  refine ⟨by simp [put,Act.put,h.1],fun k d' v' p q=> ?_⟩
  simp only [put,Act.put] at p q
  by_cases e:i=k
  ·subst e
   have hlt:i<t.length:=by
    rcases Nat.lt_or_ge i t.length with x|x
    ·exact x
    ·rw [List.getElem?_eq_none (by simpa using x)] at p;cases p
   have hlt2:i<a.tmps.size:=by rw [← h.1];exact hlt
   simp [hlt] at p
   simp [hlt2] at q
   subst p q
   exact hr
  ·rw [List.getElem?_set_ne e] at p
   rw [Array.getElem?_setIfInBounds_ne e] at q
   exact (h.2 k d' v' p q).mono le
theorem cV (a:Act) (dst:Option Nat) (v:Value):(a.put dst v).defers=a.defers:=by cases dst<;>rfl
theorem qV {M:MM} {ops:Array Oper} {t:List D} {a:Act} {j:Nat} {b:Bool} (h:∀i,(ops[j]?).bind (·.dst)=some i→bk M (t.getD i .undef) (a.tmps.getD i undef)) (hg:iG ops t j= .bool b):yielded ops a.tmps j=some b:=by
 unfold iG at hg
 split at hg
 ·rename_i o ho
  split at hg
  ·rename_i i hi
   have h1:=h i (by simp [ho,hi])
   rw [hg] at h1
   unfold yielded
   simp only [ho,Option.bind_some,hi]
   generalize hv:a.tmps.getD i undef=v at h1
   cases h1
   rw [Array.getD_eq_getD_getElem?] at hv
   cases e:a.tmps[i]? with
   |none=>rw [e] at hv;cases hv
   |some u=>rw [e] at hv;simp only [Option.getD_some] at hv;subst hv;rfl
  ·cases hg
 ·cases hg
theorem pf {M:MM} :bk M (.aA []) undef:= .aA rfl (fun i d v h=>by simp at h)
theorem nK {M:MM} {ops:Array Oper} {t:List D} {a:Act} {j:Nat} (h:∀i,(ops[j]?).bind (·.dst)=some i→bk M (t.getD i .undef) (a.tmps.getD i undef)) (hg:iG ops t j= .aA []):yielded ops a.tmps j=none:=by
 unfold iG at hg
 split at hg
 ·rename_i o ho
  split at hg
  ·rename_i i hi
   have h1:=h i (by simp [ho,hi])
   rw [hg] at h1
   unfold yielded
   simp only [ho,Option.bind_some,hi]
   generalize hv:a.tmps.getD i undef=v at h1
   cases h1
   rw [Array.getD_eq_getD_getElem?] at hv
   cases e:a.tmps[i]? with
   |none=>rfl
   |some u=>rw [e] at hv;simp only [Option.getD_some] at hv;subst hv;rfl
  ·cases hg
 ·cases hg
theorem ir {M:MM} {t:List D} {vs:Array Value} (h:bS M t vs) (i:Nat):bk M (t.getD i .undef) (vs.getD i undef):=by
 cases e:t[i]? with
 |none=>rw [List.getD_eq_getElem?_getD,e];exact .undef _
 |some d=>
  obtain ⟨v,hv,hr⟩:=h.get e
  rw [List.getD_eq_getElem?_getD,e,Array.getD_eq_getD_getElem?,hv]
  exact hr
theorem kg {s:List Ob} {i:Nat} (h:i<s.length) (o:Ob):bm (s.set i o)=dJ (bm s) i o:=by
 funext k
 unfold bm dJ
 simp only [List.getD_eq_getElem?_getD]
 by_cases e:k=i
 ·subst e;rw [List.getElem?_set_self h];simp
 ·rw [List.getElem?_set_ne (Ne.symm e),if_neg e]
theorem mW (s:List Ob) (o:Ob):bm (s++ [o])=dJ (bm s) s.length o:=by
 funext k
 unfold bm dJ
 simp only [List.getD_eq_getElem?_getD,List.getElem?_append]
 by_cases e:k=s.length
 ·subst e;simp
 ·rw [if_neg e]
  split
  ·rfl
  ·rename_i h
   rw [List.getElem?_eq_none (by simp;omega),List.getElem?_eq_none (by omega)]
theorem MM.jr {M M':MM} {n m:Nat} (h:M.upto n) (hb:∀j,m≤j→M'.box j=M.box j) (hh:∀j,m≤j→M'.bG j=M.bG j) (hm:n≤m):M'.upto m:=
 ⟨fun id hi=>by rw [hb id hi];exact h.1 id (by omega),fun id v hi=>by rw [hh id hi];exact h.2 id v (by omega)⟩
theorem zf {P:Program} {ops:Array Oper} {x:Tr} (hx:x.ok P ops) {w0:di} {M:MM} {own:Nat→Option Nat} {w:World} {a:Act} (hw:bj w0 M own (bm x.s) w) (hu:M.upto x.s.length) (ht:bS M x.t a.tmps)
  {next:Act→World→Prop} {Q:Exit→Act→World→Prop}
  (hn:∀M' own' w' a',M.Le M'→M'.upto x.dS.length→bj w0 M' own' (bm x.dS) w'→bS M' x.yn a'.tmps→a'.defers=a.defers→next a' w'):
  (if Region.wanted x.o (yielded ops a.tmps) then DJ P x.o a w next Q else next (a.put x.o.dst undef) w)∧x.s.length≤x.dS.length:=by
 obtain ⟨o,t,s,e,l,kc⟩:=x
 replace hx:=hx.1
 replace hu:M.upto s.length:=hu
 replace hw:bj w0 M own (bm s) w:=hw
 replace ht:bS M t a.tmps:=ht
 have eff:∀ {e0:ig},e=some e0→ie P o (bI t) s e0→DJ P o a w next Q∧s.length≤(⟨o,t,s,e,l,kc⟩:Tr).dS.length:=by
  intro e0 he h0
  subst he
  have hop:∀y∈o.op.operands,bk M (bI t y) (a.eval y):=fun y _=>mi ht y
  have hid:M.box s.length=none∧∀v,M.bG s.length v=none:=⟨hu.1 _ (Nat.le_refl _),fun v=>hu.2 _ v (Nat.le_refl _)⟩
  cases e0 with
  |pure d=>
   exact ⟨h0 w0 M own _ w a s.length hw hop trivial next Q fun v M' own' w' le ad hw' hr=>hn M' own' w' _ le (MM.jr hu (m:=s.length) (fun j _=>by rw [ad.1]) (fun j _=>by rw [ad.2]) (Nat.le_refl _)) hw' (hH le ht hr) (cV _ _ _),Nat.le_refl _⟩
  |gr i j d=>
   exact ⟨h0.2 w0 M own _ w a s.length hw hop h0.1.1 next Q fun v M' own' w' le ad hw' hr=>hn M' own' w' _ le (MM.jr hu (m:=s.length) (fun j _=>by rw [ad.1]) (fun j _=>by rw [ad.2]) (Nat.le_refl _)) hw' (hH le ht hr) (cV _ _ _),Nat.le_refl _⟩
  |read i ob d=>
   exact ⟨h0.2 w0 M own _ w a s.length hw hop h0.1.1 next Q fun v M' own' w' le ad hw' hr=>hn M' own' w' _ le (MM.jr hu (m:=s.length) (fun j _=>by rw [ad.1]) (fun j _=>by rw [ad.2]) (Nat.le_refl _)) hw' (hH le ht hr) (cV _ _ _),Nat.le_refl _⟩
  |dJ i ob ob' d=>
   refine ⟨h0.2 w0 M own _ w a s.length hw hop h0.1.1 next Q fun v M' own' w' le ad hw' hr=>hn M' own' w' _ le (by
    simp only [Tr.dS,List.length_set]
    exact MM.jr hu (fun j _=>by rw [ad.1]) (fun j hj=>ad.2 j (by have:=h0.1.2;omega)) (Nat.le_refl _)) (by simp only [Tr.dS];rw [kg h0.1.2];exact hw') (hH le ht hr) (cV _ _ _),by simp [Tr.dS]⟩
  |new ob mk=>
   refine ⟨h0 w0 M own _ w a s.length hw hop hid next Q fun v M' own' w' le ad hw' hr=>hn M' own' w' _ le (by
    simp only [Tr.dS,List.length_append,List.length_singleton]
    exact MM.jr hu (fun j hj=>ad.1 j (by omega)) (fun j hj=>ad.2 j (by omega)) (by omega)) (by simp only [Tr.dS];rw [mW];exact hw') (hH le ht hr) (cV _ _ _),by simp [Tr.dS]⟩
  |all s' d=>
   exact ⟨h0.2 w0 M own w a hw hu hop next Q fun v M' own' w' le up hw' hr=>hn M' own' w' _ le up hw' (hH le ht hr) (cV _ _ _),h0.1⟩
 unfold Tr.D4 at hx
 simp only at hx
 split at hx
 ·rename_i hg
  obtain ⟨e0,he,h0⟩:=hx
  obtain ⟨k1,k2⟩:=eff he h0
  refine ⟨?_,k2⟩
  have:Region.wanted o (yielded ops a.tmps)=true:=by simp [Region.wanted,hg]
  rw [if_pos this]
  exact k1
 ·rename_i j want hg
  rcases hx with ⟨b,hb,hcase⟩|⟨hb,rfl⟩
  ·have hy:=qV (M:=M) (a:=a) (fun i _=>ir ht i) hb
   rcases hcase with ⟨rfl,e0,he,h0⟩|⟨hne,rfl⟩
   ·obtain ⟨k1,k2⟩:=eff he h0
    refine ⟨?_,k2⟩
    have:Region.wanted o (yielded ops a.tmps)=true:=by simp [Region.wanted,hg,hy]
    rw [if_pos this]
    exact k1
   ·have:Region.wanted o (yielded ops a.tmps)=false:=by simp [Region.wanted,hg,hy,hne]
    rw [this]
    exact ⟨hn M own w _ (.refl M) hu hw (hH (.refl M) ht pf) (cV _ _ _),Nat.le_refl _⟩
  ·have hy:=nK (M:=M) (a:=a) (fun i _=>ir ht i) hb
   have:Region.wanted o (yielded ops a.tmps)=false:=by simp [Region.wanted,hg,hy]
   rw [this]
   exact ⟨hn M own w _ (.refl M) hu hw (hH (.refl M) ht pf) (cV _ _ _),Nat.le_refl _⟩
theorem nF {P:Program} {ops:Array Oper} {w0:di} {Q:Exit→Act→World→Prop} {df:List Deferred} (rr:Option Nat):∀ {rest:List Oper} {t:List D} {s:List Ob} {tr:List Tr} {t':List D} {s':List Ob},Trace P ops rest t s tr t' s'→
  ∀ {M:MM} {own:Nat→Option Nat} {w:World} {a:Act} (k:Nat),ops.toList.drop k=rest→bj w0 M own (bm s) w→M.upto s.length→bS M t a.tmps→a.defers=df→
  (∀M' own' w' a',M.Le M'→M'.upto s'.length→bj w0 M' own' (bm s') w'→bS M' t' a'.tmps→a'.defers=df→Q .normal a' w')→wpOpsIn (FW rr) 0 P ops Q (List.range' k rest.length) a w
 | [],t,s,tr,t',s',h,M,own,w,a,k,hk,hw,hu,ht,hd,hq=>by
  obtain ⟨rfl,rfl,rfl⟩:=h
  exact hq M own w a (.refl M) hu hw ht hd
 |o::rest,t,s,tr,t',s',h,M,own,w,a,k,hk,hw,hu,ht,hd,hq=>by
  obtain ⟨x,xs,rfl,rfl,rfl,rfl,hok,h⟩:=h
  have hat:ops[k]? =some x.o:=by
   rw [← Array.getElem?_toList]
   have:=congrArg (fun l=>l[0]?) hk
   simpa using this
  have hdrop:ops.toList.drop (k+1)=rest:=by
   have:=congrArg List.tail hk
   simpa using this
  rw [List.length_cons,List.range'_succ]
  simp only [wpOpsIn,hat]
  have hs:=(zf (next:=wpOpsIn (FW rr) 0 P ops Q (List.range' (k+1) rest.length)) (Q:=Q) hok hw hu ht fun M' own' w' a' le up hw' ht' hd'=>nF rr h (k+1) hdrop hw' up ht' (by rw [hd'];exact hd) fun M2 own2 w2 a2 le2 up2 hw2 ht2 hd2=>hq M2 own2 w2 a2 (le.trans le2) up2 hw2 ht2 hd2).1
  split
  ·rename_i hwt
   rw [if_pos hwt] at hs
   exact hs rr
  ·rename_i hwt
   rw [if_neg hwt] at hs
   exact ⟨fun _ _=>trivial,hs⟩
theorem mb {P:Program} {ops:Array Oper} :∀ {rest:List Oper} {t:List D} {s:List Ob} {tr:List Tr} {t':List D} {s':List Ob},Trace P ops rest t s tr t' s'→∀(i:Nat) (x:Tr),tr[i]? =some x→rest[i]? =some x.o∧x.ok P ops
 | [],_,_,_,_,_,h,i,x,hx=>by obtain ⟨rfl,_⟩:=h;simp at hx
 |o::rest,_,_,_,_,_,h,i,x,hx=>by
  obtain ⟨y,xs,rfl,ho,_,_,hok,h⟩:=h
  cases i with
  |zero=>simp at hx;subst hx;exact ⟨by simp [ho],hok⟩
  |succ i=>exact mb h i x (by simpa using hx)
theorem qI {P:Program} {ops:Array Oper} {x:Tr} (h:x.ok P ops):x.s.length≤x.dS.length:=by
 obtain ⟨o,t,s,e,l,kc⟩:=x
 replace h:=h.1
 have eff:∀ {e0:ig},e=some e0→ie P o (bI t) s e0→s.length≤(⟨o,t,s,e,l,kc⟩:Tr).dS.length:=by
  intro e0 he h0
  subst he
  cases e0 with
  |pure d=>exact Nat.le_refl _
  |read i ob d=>exact Nat.le_refl _
  |gr i j d=>exact Nat.le_refl _
  |dJ i ob ob' d=>simp [Tr.dS]
  |new ob mk=>simp [Tr.dS]
  |all s' d=>exact h0.1
 unfold Tr.D4 at h
 simp only at h
 split at h
 ·obtain ⟨e0,he,h0⟩:=h;exact eff he h0
 ·obtain ⟨b,_,⟨_,e0,he,h0⟩|⟨_,rfl⟩⟩|⟨_,rfl⟩:=h
  ·exact eff he h0
  ·exact Nat.le_refl _
  ·exact Nat.le_refl _
theorem iv {P:Program} {ops:Array Oper} :∀ {rest:List Oper} {t:List D} {s:List Ob} {tr:List Tr} {t':List D} {s':List Ob},Trace P ops rest t s tr t' s'→s.length≤s'.length
 | [],_,_,_,_,_,h=>by obtain ⟨_,_,rfl⟩:=h;exact Nat.le_refl _
 |o::rest,_,_,_,_,_,h=>by
  obtain ⟨x,xs,rfl,_,_,rfl,hok,h⟩:=h
  exact Nat.le_trans (qI hok) (iv h)
theorem lW (acc:List Nat):∀(es:List Edge) (m k:Nat),(es.foldl (fun m e=>match Region.binds .any e with|true=>m|||(1<<<e.on)|||acc.getD e.on 0|false=>m) m).testBit k=true→
  m.testBit k=true∨∃e∈es,Region.binds .any e=true∧(k=e.on∨(acc.getD e.on 0).testBit k=true)
 | [],m,k,h=> .inl h
 |e::es,m,k,h=>by
  rw [List.foldl_cons] at h
  rcases lW acc es _ k h with h|⟨e',he,h1,h2⟩
  ·split at h
   ·rename_i hb
    rw [Nat.testBit_or,Nat.testBit_or,Bool.or_eq_true,Bool.or_eq_true] at h
    rcases h with (h|h)|h
    ·exact .inl h
    ·refine .inr ⟨e,by simp,hb,.inl ?_⟩
     rw [Nat.one_shiftLeft,Nat.testBit_two_pow] at h
     exact (of_decide_eq_true h).symm
    ·exact .inr ⟨e,by simp,hb,.inr h⟩
   ·exact .inl h
  ·exact .inr ⟨e',by simp [he],h1,h2⟩
def tL (o:Oper) (acc:List Nat):Nat:=o.after.toList.foldl (fun m e=>match Region.binds .any e with|true=>m|||(1<<<e.on)|||acc.getD e.on 0|false=>m) 0
theorem hP:∀(rest:List Oper) (acc:List Nat),(fY rest acc).length=acc.length+rest.length∧(fY rest acc).take acc.length=acc∧
  ∀(j:Nat) (o:Oper),rest[j]? =some o→(fY rest acc)[acc.length+j]? =some (tL o ((fY rest acc).take (acc.length+j)))
 | [],acc=>⟨by simp [fY],by simp [fY],fun j o h=>by simp at h⟩
 |o::rest,acc=>by
  have ih:=hP rest (acc++ [tL o acc])
  have hun:fY (o::rest) acc=fY rest (acc++ [tL o acc]):=rfl
  rw [hun]
  obtain ⟨h1,h2,h3⟩:=ih
  have h2':(fY rest (acc++ [tL o acc])).take acc.length=acc:=by
   have:=congrArg (fun l=>l.take acc.length) h2
   simp only [List.length_append,List.length_singleton,List.take_take] at this
   rw [show min acc.length (acc.length+1)=acc.length by omega] at this
   rw [this]
   simp
  refine ⟨by rw [h1];simp;omega,h2',fun j q hq=> ?_⟩
  cases j with
  |zero=>
   simp at hq
   subst hq
   rw [Nat.add_zero,h2']
   have:=congrArg (fun l=>l[acc.length]?) h2
   simp only [List.length_append,List.length_singleton,List.getElem?_take] at this
   rw [if_pos (by omega)] at this
   rw [this]
   simp
  |succ j=>
   have:=h3 j q (by simpa using hq)
   simp only [List.length_append,List.length_singleton] at this
   rw [show acc.length+1+j=acc.length+(j+1) by omega] at this
   exact this
def yd (ops:Array Oper) (L:Nat→Bool) (j:Nat):Prop:= ∀o,ops[j]? =some o→∀e∈o.after.toList,Region.binds .any e=true→L e.on=true
def closed (ops:Array Oper) (L:Nat→Bool):Prop:= ∀i,L i=true→yd ops L i
theorem reach {ops:Array Oper} {L:Nat→Bool} (hc:closed ops L):∀(n j:Nat),j≤n→yd ops L j→∀k,((fY ops.toList []).getD j 0).testBit k=true→L k=true:=by
 intro n
 induction n with
 |zero=>
  intro j hj hp k hk
  obtain rfl:j=0:=by omega
  cases ho:ops[0]? with
  |none=>
   have hlen:=(hP ops.toList []).1
   have:(fY ops.toList [])[0]? =none:=by
    rw [List.getElem?_eq_none_iff,hlen,List.length_nil,Nat.zero_add,Array.length_toList]
    exact Array.getElem?_eq_none_iff.1 ho
   rw [List.getD_eq_getElem?_getD,this] at hk
   simp at hk
  |some o=>
   have h:=(hP ops.toList []).2.2 0 o (by rw [Array.getElem?_toList];exact ho)
   simp only [List.length_nil,Nat.zero_add,List.take_zero] at h
   rw [List.getD_eq_getElem?_getD,h,Option.getD_some] at hk
   rcases lW _ _ _ _ hk with h0|⟨e,he,h1,h2⟩
   ·simp at h0
   ·rcases h2 with rfl|h2
    ·exact hp o ho e he h1
    ·simp at h2
 |succ n ih=>
  intro j hj hp k hk
  cases ho:ops[j]? with
  |none=>
   have hlen:=(hP ops.toList []).1
   have:(fY ops.toList [])[j]? =none:=by
    rw [List.getElem?_eq_none_iff,hlen,List.length_nil,Nat.zero_add,Array.length_toList]
    exact Array.getElem?_eq_none_iff.1 ho
   rw [List.getD_eq_getElem?_getD,this] at hk
   simp at hk
  |some o=>
   have h:=(hP ops.toList []).2.2 j o (by rw [Array.getElem?_toList];exact ho)
   simp only [List.length_nil,Nat.zero_add] at h
   rw [List.getD_eq_getElem?_getD,h,Option.getD_some] at hk
   rcases lW _ _ _ _ hk with h0|⟨e,he,h1,h2⟩
   ·simp at h0
   ·have hL:=hp o ho e he h1
    rcases h2 with rfl|h2
    ·exact hL
    ·rw [List.getD_eq_getElem?_getD,List.getElem?_take] at h2
     split at h2
     ·rename_i hlt
      refine ih e.on (by omega) (hc _ hL) k ?_
      rw [List.getD_eq_getElem?_getD]
      exact h2
     ·simp at h2
section
variable (tr:List Tr) (t0:List D) (σ0:Nat→Ob)
def cD (x:Tr) (id:Nat):Prop:=match x.e with
  |some (.dJ i _ _ _)=>id=i
  |some (.new _ _)=>id=x.s.length
  |some (.all _ _)=>id∉x.k
  |_=>False
def eN (L:Nat→Bool):Nat→List D
  |0=>t0
  |k+1=>match L k,tr[k]? with
    |true,some x=>put (eN L k) x.o.dst x.val
    |_,_=>eN L k
def bV (L:Nat→Bool):Nat→Nat→Ob
  |0=>σ0
  |k+1=>match L k,tr[k]? with
    |true,some x=>match x.e with
      |some (.dJ i _ o' _)=>dJ (bV L k) i o'
      |some (.new o' _)=>dJ (bV L k) x.s.length o'
      |some (.all s' _)=>fun id=>if id∈x.k then bV L k id else bm s' id
      |_=>bV L k
    |_,_=>bV L k
theorem gX {t:List D} {dst:Option Nat} {d:D} {i:Nat} (h:dst≠some i):(put t dst d)[i]? =t[i]? :=by
 cases dst with
 |none=>rfl
 |some j=>exact List.getElem?_set_ne (fun e=>h (by rw [e]))
theorem wh (t:List D) (dst:Option Nat) (d:D):(put t dst d).length=t.length:=by cases dst<;>simp [put]
theorem fF (L:Nat→Bool):∀k,(eN tr t0 L k).length=t0.length
 |0=>rfl
 |k+1=>by
  unfold eN
  split
  ·rw [wh,fF L k]
  ·exact fF L k
theorem iZ {L L':Nat→Bool} {i:Nat} :∀k,(∀j x,j<k→tr[j]? =some x→x.o.dst=some i→L j=L' j)→(eN tr t0 L k)[i]? =(eN tr t0 L' k)[i]?
 |0,_=>rfl
 |k+1,h=>by
  have ih:=iZ (L:=L) (L':=L') (i:=i) k (fun j x hj=>h j x (by omega))
  have hlen:(eN tr t0 L k).length=(eN tr t0 L' k).length:=by rw [fF,fF]
  unfold eN
  cases hx:tr[k]? with
  |none=>cases L k<;>cases L' k<;>exact ih
  |some x=>
   by_cases hd:x.o.dst=some i
   ·rw [h k x (by omega) hx hd]
    cases L' k
    ·exact ih
    ·simp only [hd,put,List.getElem?_set,hlen,if_true]
   ·cases L k<;>cases L' k<;>simp only []<;>first|exact ih|(rw [gX hd];exact ih)|(rw [gX hd,gX hd];exact ih)
theorem lZ {L:Nat→Bool} {i:Nat} (m:Nat):∀k,m≤k→(∀j x,m≤j→j<k→tr[j]? =some x→x.o.dst=some i→L j=false)→(eN tr t0 L k)[i]? =(eN tr t0 L m)[i]?
 |0,hm,_=>by
  have e:m=0:=by omega
  subst e
  rfl
 |k+1,hm,h=>by
  by_cases e:m=k+1
  ·subst e;rfl
  ·have ih:=lZ m k (by omega) (fun j x h1 h2=>h j x h1 (by omega))
   conv=>lhs;unfold eN
   cases hx:tr[k]? with
   |none=>cases L k<;>exact ih
   |some x=>
    by_cases hd:x.o.dst=some i
    ·rw [h k x (by omega) (by omega) hx hd];exact ih
    ·cases L k
     ·exact ih
     ·simp only [];rw [gX hd];exact ih
theorem hO {L L':Nat→Bool} {id:Nat} :∀k,(∀j x,j<k→tr[j]? =some x→cD x id→L j=L' j)→bV tr σ0 L k id=bV tr σ0 L' k id
 |0,_=>rfl
 |k+1,h=>by
  have ih:=hO (L:=L) (L':=L') (id:=id) k (fun j x hj=>h j x (by omega))
  unfold bV
  cases hx:tr[k]? with
  |none=>cases L k<;>cases L' k<;>exact ih
  |some x=>
   have hk:=h k x (by omega) hx
   unfold cD at hk
   cases he:x.e with
   |none=>cases L k<;>cases L' k<;>simp only [he]<;>exact ih
   |some e=>
    rw [he] at hk
    cases e with
    |pure d=>cases L k<;>cases L' k<;>simp only [he]<;>exact ih
    |read i o d=>cases L k<;>cases L' k<;>simp only [he]<;>exact ih
    |gr i j d=>cases L k<;>cases L' k<;>simp only [he]<;>exact ih
    |dJ i o o' d=>
     by_cases e1:id=i
     ·rw [hk e1];cases L' k<;>simp only [he,dJ,e1,if_true]<;>(try exact e1▸ih)
     ·cases L k<;>cases L' k<;>simp only [he,dJ,e1,if_false]<;>exact ih
    |new o' mk=>
     by_cases e1:id=x.s.length
     ·rw [hk e1];cases L' k<;>simp only [he,dJ,e1,if_true]<;>(try exact e1▸ih)
     ·cases L k<;>cases L' k<;>simp only [he,dJ,e1,if_false]<;>exact ih
    |all s' d=>
     by_cases e1:id∈x.k
     ·cases L k<;>cases L' k<;>simp only [he,e1,if_true]<;>exact ih
     ·rw [hk e1];cases L' k<;>simp only [he,e1,if_false];exact ih
theorem iI {L:Nat→Bool} {id:Nat} (m:Nat):∀k,m≤k→(∀j x,m≤j→j<k→tr[j]? =some x→cD x id→L j=false)→bV tr σ0 L k id=bV tr σ0 L m id
 |0,hm,_=>by
  have e:m=0:=by omega
  subst e
  rfl
 |k+1,hm,h=>by
  by_cases e:m=k+1
  ·subst e;rfl
  ·have ih:=iI m k (by omega) (fun j x h1 h2=>h j x h1 (by omega))
   conv=>lhs;unfold bV
   cases hx:tr[k]? with
   |none=>cases L k<;>exact ih
   |some x=>
    have hk:=h k x (by omega) (by omega) hx
    unfold cD at hk
    cases hL:L k with
    |false=>exact ih
    |true=>
     rw [hL] at hk
     simp only []
     cases he:x.e with
     |none=>exact ih
     |some e=>
      rw [he] at hk
      cases e with
      |pure d=>exact ih
      |read i o d=>exact ih
      |gr i j d=>exact ih
      |dJ i o o' d=>
       by_cases e1:id=i
       ·exact absurd (hk e1) (by simp)
       ·simp only [dJ,e1,if_false];exact ih
      |new o' mk=>
       by_cases e1:id=x.s.length
       ·exact absurd (hk e1) (by simp)
       ·simp only [dJ,e1,if_false];exact ih
      |all s' d=>
       by_cases e1:id∈x.k
       ·simp only [e1,if_true];exact ih
       ·exact absurd (hk e1) (by simp)
end
theorem p5 {P:Program} {ops:Array Oper} :∀ {rest:List Oper} {t:List D} {s:List Ob} {tr:List Tr} {t':List D} {s':List Ob},Trace P ops rest t s tr t' s'→
  (∀(i:Nat) (x:Tr),tr[i]? =some x→eN tr t (fun _=>true) i=x.t∧bV tr (bm s) (fun _=>true) i=bm x.s∧s.length≤x.s.length∧x.dS.length≤s'.length∧
   (∀(j:Nat) (y:Tr),j<i→tr[j]? =some y→y.dS.length≤x.s.length)∧(∀id,s.length≤id→id<x.s.length→∃j y,j<i∧tr[j]? =some y∧y.s.length≤id∧id<y.dS.length))∧
  eN tr t (fun _=>true) tr.length=t'∧bV tr (bm s) (fun _=>true) tr.length=bm s'
 | [],t,s,tr,t',s',h=>by
  obtain ⟨rfl,rfl,rfl⟩:=h
  exact ⟨fun i x hx=>by simp at hx,rfl,rfl⟩
 |o::rest,t,s,tr,t',s',h=>by
  obtain ⟨x,xs,rfl,rfl,rfl,rfl,hok,h⟩:=h
  obtain ⟨ih,ih1,ih2⟩:=p5 h
  have hslen:=qI hok
  have shiftT:∀k,eN (x::xs) x.t (fun _=>true) (k+1)=eN xs x.yn (fun _=>true) k:=by
   intro k
   induction k with
   |zero=>rfl
   |succ k ihk=>
    conv=>lhs;unfold eN
    conv=>rhs;unfold eN
    simp only [List.getElem?_cons_succ]
    cases xs[k]? with
    |none=>exact ihk
    |some y=>simp only [];rw [ihk]
  have hbase:bV (x::xs) (bm x.s) (fun _=>true) 1=bm x.dS:=by
   unfold bV bV
   simp only [List.getElem?_cons_zero]
   unfold Tr.dS
   cases he:x.e with
   |none=>rfl
   |some e=>
    cases e with
    |pure d=>rfl
    |read i o d=>rfl
    |gr i j d=>rfl
    |dJ i ob ob' d=>
     have:i<x.s.length:=by
      replace hok:=hok.1
      unfold Tr.D4 at hok
      rw [he] at hok
      split at hok
      ·obtain ⟨e0,h0,h1⟩:=hok;cases h0;exact h1.1.2
      ·obtain ⟨b,_,⟨_,e0,h0,h1⟩|⟨_,h0⟩⟩|⟨_,h0⟩:=hok
       ·cases h0;exact h1.1.2
       ·cases h0
       ·cases h0
     simp only []
     rw [kg this]
    |new ob mk=>simp only [];rw [mW]
    |all s2 d=>
     have hk:=hok.2
     unfold Tr.G8 at hk
     rw [he] at hk
     simp only []
     funext id
     by_cases e1:id∈x.k
     ·rw [if_pos e1];exact (hk.1 id e1).2
     ·rw [if_neg e1]
  have shiftS:∀k,bV (x::xs) (bm x.s) (fun _=>true) (k+1)=bV xs (bm x.dS) (fun _=>true) k:=by
   intro k
   induction k with
   |zero=>exact hbase
   |succ k ihk=>
    conv=>lhs;unfold bV
    conv=>rhs;unfold bV
    simp only [List.getElem?_cons_succ]
    cases xs[k]? with
    |none=>exact ihk
    |some y=>simp only [];rw [ihk]
  refine ⟨fun i y hy=> ?_,by rw [List.length_cons,shiftT];exact ih1,by rw [List.length_cons,shiftS];exact ih2⟩
  cases i with
  |zero=>
   simp at hy
   subst hy
   exact ⟨rfl,rfl,Nat.le_refl _,iv h,fun j y hj=>by omega,fun id h1 h2=>by omega⟩
  |succ i=>
   obtain ⟨a1,a2,a3,a4,a5,a6⟩:=ih i y (by simpa using hy)
   refine ⟨by rw [shiftT];exact a1,by rw [shiftS];exact a2,by omega,a4,?_,?_⟩
   ·intro j z hj hz
    cases j with
    |zero=>simp at hz;subst hz;exact a3
    |succ j=>exact a5 j z (by omega) (by simpa using hz)
   ·intro id h1 h2
    rcases Nat.lt_or_ge id x.dS.length with q|q
    ·exact ⟨0,x,by omega,rfl,h1,q⟩
    ·obtain ⟨j,z,b1,b2,b3,b4⟩:=a6 id q h2
     exact ⟨j+1,z,by omega,by simpa using b2,b3,b4⟩
theorem p4 {ops:Array Oper} {tr:List Tr} (h:lY ops ((tr.map Tr.fp).reverse++ [])=true):
  tr.length=ops.size∧(∀(j:Nat) (o:Oper),ops[j]? =some o→∀e∈o.after.toList,Region.binds .any e=true→e.on<j)∧
  ∀(i j:Nat) (x y:Tr) (ox oy:Oper),i<j→tr[i]? =some x→tr[j]? =some y→ops[i]? =some ox→ops[j]? =some oy→((fY ops.toList []).getD j 0).testBit i=true∨(share ops ox oy=false∧fJ x.fp y.fp=false):=by
 unfold lY at h
 simp only [List.append_nil,List.reverse_reverse,List.length_map,Array.length_toList,Bool.and_eq_true,Nat.beq_eq,List.all_eq_true,List.mem_range] at h
 obtain ⟨hl,h⟩:=h
 refine ⟨hl,?_,?_⟩
 ·intro j o ho e he hb
  have hj:j<ops.size:=by
   rcases Nat.lt_or_ge j ops.size with q|q
   ·exact q
   ·simp [Array.getElem?_eq_none q] at ho
  have:=(h j hj).1
  rw [Array.getElem?_toList,ho] at this
  simp only [Array.all_eq_true_iff_forall_mem] at this
  have h1:=this e (by simpa using he)
  rw [hb] at h1
  simp only [Bool.not_true,Bool.false_or] at h1
  exact Nat.lt_of_succ_le (by simpa [Nat.blt,Nat.ble_eq] using h1)
 ·intro i j x y ox oy hij hx hy hox hoy
  have hj:j<ops.size:=by
   rcases Nat.lt_or_ge j ops.size with q|q
   ·exact q
   ·simp [Array.getElem?_eq_none q] at hoy
  have:=(h j hj).2 i hij
  rw [Array.getElem?_toList,Array.getElem?_toList,hox,hoy] at this
  simp only [List.getD_eq_getElem?_getD,List.getElem?_map,hx,hy,Option.map_some,Option.getD_some,Bool.or_eq_true,Bool.and_eq_true,Bool.not_eq_true'] at this
  rw [List.getD_eq_getElem?_getD]
  exact this
theorem kX {i:Nat} :∀ {l:List Nat},iC i l=true↔i∈l
 | []=>by simp [iC]
 |a::r=>by
  unfold iC
  split
  ·rename_i h;rw [Nat.beq_eq] at h;subst h;simp
  ·rename_i h
   rw [kX]
   have:a≠i:=fun e=>by subst e;simp at h
   simp [Ne.symm this]
theorem uU {i j:Nat} :∀ {l:List (Nat×Nat)},wG i j l=true↔(i,j)∈l
 | []=>by simp [wG]
 |(a,b)::r=>by
  unfold wG
  split
  ·rename_i h1 h2
   rw [Nat.beq_eq] at h1 h2
   subst h1 h2
   simp
  ·rename_i h
   rw [uU,List.mem_cons]
   refine ⟨.inr,fun q=> ?_⟩
   rcases q with e|q
   ·cases e
    exact (h (Nat.beq_refl i) (Nat.beq_refl j)).elim
   ·exact q
theorem gm {z:Tr} {id:Nat} (h:cD z id):z.fp= .wr id∨z.fp= .nw id∨∃l kc,z.fp= .all l kc∧id∉l:=by
 unfold cD at h
 unfold Tr.fp
 cases he:z.e with
 |none=>rw [he] at h;exact h.elim
 |some e=>
  rw [he] at h
  cases e with
  |pure d=>exact h.elim
  |read i o d=>exact h.elim
  |gr i j d=>exact h.elim
  |dJ i o o' d=>subst h;exact .inl rfl
  |new o mk=>subst h;exact .inr (.inl rfl)
  |all s d=>exact .inr (.inr ⟨z.k,z.kc,rfl,h⟩)
theorem yC {z:Tr} {id:Nat} (h1:z.s.length≤id) (h2:id<z.dS.length):z.fp= .nw id∨∃l kc,z.fp= .all l kc:=by
 unfold Tr.dS at h2
 unfold Tr.fp
 cases he:z.e with
 |none=>rw [he] at h2;simp at h2;omega
 |some e=>
  rw [he] at h2
  cases e with
  |pure d=>simp at h2;omega
  |read i o d=>simp at h2;omega
  |gr i j d=>simp at h2;omega
  |dJ i o o' d=>simp at h2;omega
  |new o mk=>
   simp at h2
   have e:id=z.s.length:=by omega
   subst e
   exact .inl rfl
  |all s d=>exact .inr ⟨_,_,rfl⟩
section
variable {P:Program} {ops:Array Oper} {t0:List D} {s0:List Ob} {tr:List Tr} {tn:List D} {sn:List Ob} {w0:di} {M0:MM} {df:List Deferred}
structure Fe (df:List Deferred) (P:Program) (ops:Array Oper) (t0:List D) (s0:List Ob) (tr:List Tr) (w0:di) (M0:MM) (L:Nat→Bool) (M:MM) (own:Nat→Option Nat) (w:World) (a:Act):Prop where
  cl:closed ops L
  rel:bj w0 M own (bV tr (bm s0) L ops.size) w
  um:bS M (eN tr t0 L ops.size) a.tmps
  defers:a.defers=df
  live:∀id,(M.box id≠none∨∃v,M.bG id v≠none)→id<s0.length∨∃(j:Nat) (y:Tr),L j=true∧tr[j]? =some y∧y.s.length≤id∧id<y.dS.length
  le:M0.Le M
def im (L:Nat→Bool) (i:Nat):Nat→Bool:=fun j=>if j=i then true else L j
theorem zg (htr:Trace P ops ops.toList t0 s0 tr tn sn) (hd:lY ops ((tr.map Tr.fp).reverse++ [])=true) {L:Nat→Bool} {M:MM} {own:Nat→Option Nat} {w:World} {a:Act} (inv:Fe df P ops t0 s0 tr w0 M0 L M own w a)
  {i:Nat} {x:Tr} (hx:tr[i]? =some x) (hLi:L i=false) (hp:yd ops L i) {Q:Exit→Act→World→Prop} {K:Act→World→Prop}
  (hK:∀M' own' w' a',Fe df P ops t0 s0 tr w0 M0 (im L i) M' own' w' a'→K a' w'):∀rr,wpOpIn (FW rr) 0 P ops Q i K a w:=by
 intro rr
 obtain ⟨hlen,hedge,hpair⟩:=p4 hd
 obtain ⟨hall,_,_⟩:=p5 htr
 obtain ⟨ho',hok⟩:=mb htr i x hx
 have hat:ops[i]? =some x.o:=by rw [← Array.getElem?_toList];exact ho'
 have hop:∀ {j:Nat} {y:Tr},tr[j]? =some y→ops[j]? =some y.o:=fun {j y} hy=>by rw [← Array.getElem?_toList];exact (mb htr j y hy).1
 have hin:i<ops.size:=by
  rcases Nat.lt_or_ge i ops.size with q|q
  ·exact q
  ·simp [Array.getElem?_eq_none q] at hat
 obtain ⟨aT,aS,a3,a4,a5,a6⟩:=hall i x hx
 have before:∀ {j:Nat} {y:Tr},j<i→tr[j]? =some y→(share ops y.o x.o=true∨fJ y.fp x.fp=true)→L j=true:=by
  intro j y hj hy hc
  rcases hpair j i y x _ _ hj hy hx (hop hy) hat with h|⟨h1,h2⟩
  ·exact reach inv.cl i i (Nat.le_refl _) hp j h
  ·rcases hc with hc|hc
   ·rw [h1] at hc;cases hc
   ·rw [h2] at hc;cases hc
 have after:∀ {j:Nat} {y:Tr},i<j→tr[j]? =some y→(share ops x.o y.o=true∨fJ x.fp y.fp=true)→L j=false:=by
  intro j y hj hy hc
  rcases hpair i j x y _ _ hj hx hy hat (hop hy) with h|⟨h1,h2⟩
  ·cases e:L j with
   |false=>rfl
   |true=>
    have:=reach inv.cl j j (Nat.le_refl _) (inv.cl j e) i h
    rw [hLi] at this;cases this
  ·rcases hc with hc|hc
   ·rw [h1] at hc;cases hc
   ·rw [h2] at hc;cases hc
 have clash_of:∀ {f g:FP} {id:Nat},(f= .wr id∨f= .nw id∨∃l kc,f= .all l kc∧id∉l)→(g= .rd id∨g= .wr id∨g= .nw id∨∃l kc,g= .all l kc)→fJ f g=true:=by
  intro f g id h1 h2
  rcases h1 with rfl|rfl|⟨l,kc,rfl,hl⟩<;>rcases h2 with rfl|rfl|rfl|⟨l',kc',rfl⟩<;>simp [fJ]
  cases e:iC id l
  ·rfl
  ·exact absurd (kX.1 e) hl
 have clash_of':∀ {f g:FP} {id:Nat},(f= .rd id∨f= .wr id∨f= .nw id∨∃l kc,f= .all l kc)→(g= .wr id∨g= .nw id∨∃l kc,g= .all l kc∧id∉l)→fJ f g=true:=by
  intro f g id h1 h2
  rcases h1 with rfl|rfl|rfl|⟨l',kc',rfl⟩<;>rcases h2 with rfl|rfl|⟨l,kc,rfl,hl⟩<;>simp [fJ]
  cases e:iC id l
  ·rfl
  ·exact absurd (kX.1 e) hl
 have F1:∀y,y∈pC ops x.o→(eN tr t0 L ops.size)[y]? =x.t[y]? :=by
  intro y hy
  rw [lZ tr t0 (L:=L) (i:=y) i ops.size (by omega) (fun j z h1 h2 hz hdst=>by
   rcases Nat.lt_or_eq_of_le h1 with h|h
   ·refine after h hz (.inl ?_)
    unfold share
    rw [hdst]
    simp only [Bool.or_eq_true]
    right
    simpa using hy
   ·rw [← h];exact hLi)]
  rw [iZ tr t0 (L:=L) (L':=fun _=>true) (i:=y) i (fun j z hj hz hdst=>by
   refine before hj hz (.inl ?_)
   unfold share
   rw [hdst]
   simp only [Bool.or_eq_true]
   left;left
   simpa using hy),aT]
 have hops:∀y∈x.o.op.operands,bI (eN tr t0 L ops.size) y=bI x.t y:=by
  intro y hy
  cases y with
  |tmp k=>
   have:k∈pC ops x.o:=by
    unfold pC BF
    refine List.mem_append.2 (.inl (List.mem_filterMap.2 ⟨.tmp k,by simpa using hy,rfl⟩))
   show List.getD _ _ _=List.getD _ _ _
   rw [List.getD_eq_getElem?_getD,List.getD_eq_getElem?_getD,F1 k this]
  |const v=>rfl
  |global g=>rfl
  |func f=>rfl
 have hrep:∀y∈x.o.op.operands,bk M (bI x.t y) (a.eval y):=fun y hy=>by rw [← hops y hy];exact mi inv.um y
 have F2:∀id,(x.fp= .rd id∨x.fp= .wr id∨x.fp= .nw id∨∃l kc,x.fp= .all l kc)→bV tr (bm s0) L ops.size id=bm x.s id:=by
  intro id hfp
  rw [iI tr (bm s0) (L:=L) (id:=id) i ops.size (by omega) (fun j z h1 h2 hz ht=>by
   rcases Nat.lt_or_eq_of_le h1 with h|h
   ·exact after h hz (.inr (clash_of' hfp (gm ht)))
   ·rw [← h];exact hLi)]
  rw [hO tr (bm s0) (L:=L) (L':=fun _=>true) (id:=id) i (fun j z hj hz ht=>before hj hz (.inr (clash_of (gm ht) hfp))),aS]
 have order:∀ {id a b:Nat} {y z:Tr},a<b→tr[a]? =some y→tr[b]? =some z→cD y id→cD z id→L b=true→L a=true:=by
  intro id a b y z hab hy hz ty tz hLb
  have hc:fJ y.fp z.fp=true:=clash_of (gm ty) (by
   rcases gm tz with q|q|⟨l,kc,q,_⟩
   ·exact .inr (.inl q)
   ·exact .inr (.inr (.inl q))
   ·exact .inr (.inr (.inr ⟨l,kc,q⟩)))
  rcases hpair a b y z _ _ hab hy hz (hop hy) (hop hz) with h|⟨_,h2⟩
  ·exact reach inv.cl b b (Nat.le_refl _) (inv.cl b hLb) a h
  ·rw [h2] at hc;cases hc
 have F3:∀id j,x.fp= .qq id j→fe (bV tr (bm s0) L ops.size id) j=fe (bm x.s id) j:=by
  intro id j hfp
  obtain ⟨m,hm1,hm2⟩:∃m,(∀k y,m≤k→tr[k]? =some y→cD y id→L k=false)∧∀k y,k<m→tr[k]? =some y→cD y id→L k=true:=by
   have key:∀n,(∀k y,n≤k→tr[k]? =some y→cD y id→L k=false)→∃m,(∀k y,m≤k→tr[k]? =some y→cD y id→L k=false)∧∀k y,k<m→tr[k]? =some y→cD y id→L k=true:=by
    intro n
    induction n with
    |zero=>exact fun h=>⟨0,h,fun k y hk=>by omega⟩
    |succ n ih=>
     intro h
     by_cases hn:∃y,tr[n]? =some y∧cD y id∧L n=true
     ·obtain ⟨y,hy,ty,hLn⟩:=hn
      refine ⟨n+1,h,fun k z hk hz tz=> ?_⟩
      rcases Nat.lt_or_eq_of_le (Nat.le_of_lt_succ hk) with q|q
      ·exact order q hz hy tz ty hLn
      ·subst q;exact hLn
     ·refine ih fun k y hk hy ty=> ?_
      rcases Nat.lt_or_eq_of_le hk with q|q
      ·exact h k y q hy ty
      ·subst q
       cases e:L n with
       |false=>rfl
       |true=>exact absurd ⟨y,hy,ty,e⟩ hn
   exact key tr.length fun k y hk hy=>by rw [List.getElem?_eq_none hk] at hy;cases hy
  have still:∀k y,tr[k]? =some y→((m≤k∧k<i)∨(i≤k∧k<m))→fe (bV tr (bm s0) (fun _=>true) (k+1) id) j=fe (bV tr (bm s0) (fun _=>true) k id) j:=by
   intro k y hy hk
   by_cases ty:cD y id
   ·have hnc:fJ y.fp x.fp=false∧fJ x.fp y.fp=false:=by
     rcases hk with ⟨h1,h2⟩|⟨h1,h2⟩
     ·have hL:=hm1 k y h1 hy ty
      have:fJ y.fp x.fp=false:=by
       cases e:fJ y.fp x.fp with
       |false=>rfl
       |true=>rw [before h2 hy (.inr e)] at hL;cases hL
      refine ⟨this,?_⟩
      rw [hfp] at this ⊢
      rcases gm ty with q|q|⟨l,kc,q,_⟩
      ·rw [q,show fJ (.wr id) (.qq id j)=true from Nat.beq_refl id] at this;cases this
      ·rw [q,show fJ (.nw id) (.qq id j)=true from Nat.beq_refl id] at this;cases this
      ·rw [q] at this ⊢;exact this
     ·have hL:=hm2 k y h2 hy ty
      have hne:i≠k:=fun e=>by subst e;rw [hLi] at hL;cases hL
      have:fJ x.fp y.fp=false:=by
       cases e:fJ x.fp y.fp with
       |false=>rfl
       |true=>rw [after (by omega) hy (.inr e)] at hL;cases hL
      refine ⟨?_,this⟩
      rw [hfp] at this ⊢
      rcases gm ty with q|q|⟨l,kc,q,_⟩
      ·rw [q,show fJ (.qq id j) (.wr id)=true from Nat.beq_refl id] at this;cases this
      ·rw [q,show fJ (.qq id j) (.nw id)=true from Nat.beq_refl id] at this;cases this
      ·rw [q] at this ⊢;exact this
    have hc:=hnc.2
    rw [hfp] at hc
    rcases gm ty with q|q|⟨l,kc,q,hl⟩
    ·rw [q,show fJ (.qq id j) (.wr id)=true from Nat.beq_refl id] at hc;cases hc
    ·rw [q,show fJ (.qq id j) (.nw id)=true from Nat.beq_refl id] at hc;cases hc
    ·rw [q] at hc
     have hmem:(id,j)∈kc:=by
      cases e:wG id j kc with
      |true=>exact uU.1 e
      |false=>
       have e2:iC id l=false:=by
        cases e3:iC id l with
        |false=>rfl
        |true=>exact absurd (kX.1 e3) hl
       simp [fJ,e,e2] at hc
     obtain ⟨_,hoky⟩:=mb htr k y hy
     obtain ⟨_,yS,_,_,_,_⟩:=hall k y hy
     have hkok:=hoky.2
     unfold Tr.fp at q
     unfold Tr.G8 at hkok
     cases he:y.e with
     |none=>rw [he] at q;cases q
     |some e=>
      rw [he] at q hkok
      cases e with
      |all s' d=>
       simp only at q hkok
       cases q
       have hc2:=hkok.2 id j hmem
       have e1:bV tr (bm s0) (fun _=>true) (k+1) id=bm s' id:=by
        conv=>lhs;unfold bV
        simp only [hy,he,if_neg hl]
       rw [e1,yS]
       exact hc2.symm
      |_=>cases q
   ·have e1:bV tr (bm s0) (fun _=>true) (k+1) id=bV tr (bm s0) (fun _=>true) k id:=
     iI tr (bm s0) (L:=fun _=>true) (id:=id) k (k+1) (by omega) (fun j' z h1 h2 hz tz=>by
      obtain rfl:j'=k:=by omega
      rw [hy] at hz
      obtain rfl:=Option.some.inj hz
      exact absurd tz ty)
    rw [e1]
  have walk:∀n a,(∀k,a≤k→k<a+n→(m≤k∧k<i)∨(i≤k∧k<m))→a+n≤tr.length→fe (bV tr (bm s0) (fun _=>true) (a+n) id) j=fe (bV tr (bm s0) (fun _=>true) a id) j:=by
   intro n
   induction n with
   |zero=>intro a _ _;rfl
   |succ n ih=>
    intro a h hl
    rw [← Nat.add_assoc,still (a+n) _ (List.getElem?_eq_getElem (by omega)) (h (a+n) (by omega) (by omega))]
    exact ih a (fun k h1 h2=>h k h1 (by omega)) (by omega)
  have hit:i<tr.length:=by
   rcases Nat.lt_or_ge i tr.length with q|q
   ·exact q
   ·rw [List.getElem?_eq_none q] at hx;cases hx
  have hmle:bV tr (bm s0) L ops.size id=bV tr (bm s0) (fun _=>true) (min m tr.length) id:=by
   rw [iI tr (bm s0) (L:=L) (id:=id) (min m tr.length) ops.size (by rw [← hlen];exact Nat.min_le_right ..) (fun k y h1 h2 hy ty=>by
    rcases Nat.lt_or_ge k tr.length with q|q
    ·exact hm1 k y (by omega) hy ty
    ·rw [List.getElem?_eq_none q] at hy;cases hy)]
   exact hO tr (bm s0) (L:=L) (L':=fun _=>true) (id:=id) _ (fun k y hk hy ty=>hm2 k y (by omega) hy ty)
  rw [hmle,← aS]
  rcases Nat.le_total (min m tr.length) i with q|q
  ·have:=walk (i - min m tr.length) (min m tr.length) (fun k h1 h2=> .inl ⟨by omega,by omega⟩) (by omega)
   rw [show min m tr.length+(i - min m tr.length)=i by omega] at this
   exact this.symm
  ·have:=walk (min m tr.length - i) i (fun k h1 h2=> .inr ⟨by omega,by omega⟩) (by omega)
   rw [show i+(min m tr.length - i)=min m tr.length by omega] at this
   exact this
 have hadd:∀ {j:Nat},j≠i→im L i j=L j:=fun {j} h=>by simp [im,h]
 have haddi:im L i i=true:=by simp [im]
 have hclosed:closed ops (im L i):=by
  intro j hj o ho e he hb
  by_cases e1:j=i
  ·subst e1
   by_cases e2:e.on=j
   ·rw [e2];exact haddi
   ·rw [hadd e2];exact hp o ho e he hb
  ·rw [hadd e1] at hj
   by_cases e2:e.on=i
   ·rw [e2];exact haddi
   ·rw [hadd e2];exact inv.cl j hj o ho e he hb
 have hslots:∀ {M':MM} {v:Value},M.Le M'→bk M' x.val v→bS M' (eN tr t0 (im L i) ops.size) (a.put x.o.dst v).tmps:=by
  intro M' v le hv
  have hl:=inv.um.1
  rw [fF] at hl
  refine ⟨by rw [fF];cases x.o.dst<;>simp [Act.put,hl],fun y d u h1 h2=> ?_⟩
  by_cases e:x.o.dst=some y
  ·rw [lZ tr t0 (L:=im L i) (i:=y) (i+1) ops.size (by omega) (fun j z q1 q2 hz hdst=>by
    rw [hadd (by omega)]
    refine after (by omega) hz (.inl ?_)
    unfold share
    rw [e]
    simp only [Bool.or_eq_true]
    left;right
    simp [hdst])] at h1
   unfold eN at h1
   simp only [haddi,hx,e,put] at h1
   rw [List.getElem?_set] at h1
   simp only [if_true] at h1
   split at h1
   ·obtain rfl:=Option.some.inj h1
    simp only [e,Act.put] at h2
    rw [Array.getElem?_setIfInBounds] at h2
    simp only [if_true] at h2
    split at h2
    ·obtain rfl:=Option.some.inj h2;exact hv
    ·cases h2
   ·cases h1
  ·rw [iZ tr t0 (L:=im L i) (L':=L) (i:=y) ops.size (fun j z hj hz hdst=>hadd (fun q=>by subst q;rw [hx] at hz;obtain rfl:=Option.some.inj hz;exact e hdst))] at h1
   have h2':a.tmps[y]? =some u:=by
    cases hdst:x.o.dst with
    |none=>rw [hdst] at h2;exact h2
    |some k=>
     rw [hdst] at h2
     simp only [Act.put] at h2
     rw [Array.getElem?_setIfInBounds_ne (fun q=>e (by rw [hdst,q]))] at h2
     exact h2
   exact (inv.um.2 y d u h1 h2').mono le
 have hsame:∀id,¬cD x id→bV tr (bm s0) (im L i) ops.size id=bV tr (bm s0) L ops.size id:=fun id h=>
  hO tr (bm s0) ops.size (fun j z hj hz ht=>hadd (fun q=>by subst q;rw [hx] at hz;obtain rfl:=Option.some.inj hz;exact h ht))
 have hnew:∀id,cD x id→bV tr (bm s0) (im L i) ops.size id=bV tr (bm s0) (im L i) (i+1) id:=fun id h=>
  iI tr (bm s0) (i+1) ops.size (by omega) (fun j z q1 q2 hz ht=>by
   rw [hadd (by omega)]
   refine after (by omega) hz (.inr (clash_of' ?_ (gm ht)))
   rcases gm h with q|q|⟨l,kc,q,_⟩
   ·exact .inr (.inl q)
   ·exact .inr (.inr (.inl q))
   ·exact .inr (.inr (.inr ⟨l,kc,q⟩)))
 have liveOld:∀id,(M.box id≠none∨∃v,M.bG id v≠none)→id<s0.length∨∃(j:Nat) (y:Tr),im L i j=true∧tr[j]? =some y∧y.s.length≤id∧id<y.dS.length:=by
  intro id h
  rcases inv.live id h with q|⟨j,y,q1,q2,q3,q4⟩
  ·exact .inl q
  ·exact .inr ⟨j,y,by by_cases e:j=i<;>simp [im,e,q1],q2,q3,q4⟩
 have liveLow:∀id,(x.fp= .wr id∨∃l kc,x.fp= .all l kc)→id<x.s.length→id<s0.length∨∃(j:Nat) (y:Tr),im L i j=true∧tr[j]? =some y∧y.s.length≤id∧id<y.dS.length:=by
  intro id hfp hid
  rcases Nat.lt_or_ge id s0.length with q|q
  ·exact .inl q
  ·obtain ⟨j,y,b1,b2,b3,b4⟩:=a6 id q hid
   refine .inr ⟨j,y,?_,b2,b3,b4⟩
   rw [hadd (by omega)]
   refine before b1 b2 (.inr ?_)
   rcases yC b3 b4 with h|⟨l,kc,h⟩
   ·refine clash_of (id:=id) (.inr (.inl h)) ?_
    rcases hfp with h|h
    ·exact .inr (.inl h)
    ·exact .inr (.inr (.inr h))
   ·rcases hfp with h2|⟨l2,kc2,h2⟩<;>rw [h,h2]<;>rfl
 have eff:∀ {e0:ig},x.e=some e0→ie P x.o (bI x.t) x.s e0→DJ P x.o a w K Q:=by
  intro e0 he h0
  have hval:x.val=e0.val x.s.length:=by unfold Tr.val;rw [he]
  cases e0 with
  |pure d=>
   have hnt:∀id,¬cD x id:=fun id h=>by unfold cD at h;rw [he] at h;exact h
   refine h0 w0 M own _ w a x.s.length inv.rel hrep trivial K Q fun v M' own' w' le ad hw' hr=>hK M' own' w' _ ⟨hclosed,?_,hslots le (by rw [hval];exact hr),by rw [cV];exact inv.defers,?_,inv.le.trans le⟩
   ·rw [show bV tr (bm s0) (im L i) ops.size=bV tr (bm s0) L ops.size from funext fun id=>hsame id (hnt id)];exact hw'
   ·intro id h;rw [ad.1,ad.2] at h;exact liveOld id h
  |read k ob d=>
   have hnt:∀id,¬cD x id:=fun id h=>by unfold cD at h;rw [he] at h;exact h
   have hfp:x.fp= .rd k:=by unfold Tr.fp;rw [he]
   refine h0.2 w0 M own _ w a x.s.length inv.rel hrep (by show bV _ _ _ _ k=ob;rw [F2 k (.inl hfp)];exact h0.1.1) K Q fun v M' own' w' le ad hw' hr=>hK M' own' w' _ ⟨hclosed,?_,hslots le (by rw [hval];exact hr),by rw [cV];exact inv.defers,?_,inv.le.trans le⟩
   ·rw [show bV tr (bm s0) (im L i) ops.size=bV tr (bm s0) L ops.size from funext fun id=>hsame id (hnt id)];exact hw'
   ·intro id h;rw [ad.1,ad.2] at h;exact liveOld id h
  |gr k jc d=>
   have hnt:∀id,¬cD x id:=fun id h=>by unfold cD at h;rw [he] at h;exact h
   have hfp:x.fp= .qq k jc:=by unfold Tr.fp;rw [he]
   refine h0.2 w0 M own _ w a x.s.length inv.rel hrep (by show fe (bV _ _ _ _ k) jc=some d;rw [F3 k jc hfp];exact h0.1.1) K Q fun v M' own' w' le ad hw' hr=>hK M' own' w' _ ⟨hclosed,?_,hslots le (by rw [hval];exact hr),by rw [cV];exact inv.defers,?_,inv.le.trans le⟩
   ·rw [show bV tr (bm s0) (im L i) ops.size=bV tr (bm s0) L ops.size from funext fun id=>hsame id (hnt id)];exact hw'
   ·intro id h;rw [ad.1,ad.2] at h;exact liveOld id h
  |dJ k ob ob' d=>
   have hfp:x.fp= .wr k:=by unfold Tr.fp;rw [he]
   have htk:cD x k:=by unfold cD;rw [he]
   refine h0.2 w0 M own _ w a x.s.length inv.rel hrep (by show bV _ _ _ _ k=ob;rw [F2 k (.inr (.inl hfp))];exact h0.1.1) K Q fun v M' own' w' le ad hw' hr=>hK M' own' w' _ ⟨hclosed,?_,hslots le (by rw [hval];exact hr),by rw [cV];exact inv.defers,?_,inv.le.trans le⟩
   ·rw [show bV tr (bm s0) (im L i) ops.size=ig.post (.dJ k ob ob' d) (bV tr (bm s0) L ops.size) x.s.length from funext fun id=>by
     by_cases e:id=k
     ·subst e
      rw [hnew id htk]
      unfold bV
      simp only [haddi,hx,he,ig.post,aO]
     ·rw [hsame id (fun h=>by unfold cD at h;rw [he] at h;exact e h)]
      simp only [ig.post,aQ e]]
    exact hw'
   ·intro id h
    by_cases e:id=k
    ·subst e;exact liveLow id (.inl hfp) h0.1.2
    ·rw [ad.1,ad.2 id e] at h;exact liveOld id h
  |new ob mk=>
   have htk:cD x x.s.length:=by unfold cD;rw [he]
   have hnext:x.dS.length=x.s.length+1:=by unfold Tr.dS;rw [he];simp
   have hfresh:¬(M.box x.s.length≠none∨∃v,M.bG x.s.length v≠none):=by
    intro h
    rcases inv.live _ h with q|⟨j,y,q1,q2,q3,q4⟩
    ·omega
    ·rcases Nat.lt_trichotomy j i with c|c|c
     ·have:=a5 j y c q2;omega
     ·subst c;rw [hLi] at q1;cases q1
     ·have:=(hall j y q2).2.2.2.2.1 i x c hx;omega
   have hf1:M.box x.s.length=none:=by
    cases e:M.box x.s.length with
    |none=>rfl
    |some b=>exact absurd (.inl (by rw [e];simp)) hfresh
   have hf2:∀v,M.bG x.s.length v=none:=fun v=>by
    cases e:M.bG x.s.length v with
    |none=>rfl
    |some b=>exact absurd (.inr ⟨v,by rw [e];simp⟩) hfresh
   refine h0 w0 M own _ w a x.s.length inv.rel hrep ⟨hf1,hf2⟩ K Q fun v M' own' w' le ad hw' hr=>hK M' own' w' _ ⟨hclosed,?_,hslots le (by rw [hval];exact hr),by rw [cV];exact inv.defers,?_,inv.le.trans le⟩
   ·rw [show bV tr (bm s0) (im L i) ops.size=ig.post (.new ob mk) (bV tr (bm s0) L ops.size) x.s.length from funext fun id=>by
     by_cases e:id=x.s.length
     ·subst e
      rw [hnew _ htk]
      unfold bV
      simp only [haddi,hx,he,ig.post,aO]
     ·rw [hsame id (fun h=>by unfold cD at h;rw [he] at h;exact e h)]
      simp only [ig.post,aQ e]]
    exact hw'
   ·intro id h
    by_cases e:id=x.s.length
    ·exact .inr ⟨i,x,haddi,hx,by omega,by omega⟩
    ·rw [ad.1 id e,ad.2 id e] at h;exact liveOld id h
  |all s' d=>
   have hfp:x.fp= .all x.k x.kc:=by unfold Tr.fp;rw [he]
   have hta:∀id,id∉x.k→cD x id:=fun id hk=>by unfold cD;rw [he];exact hk
   have hkk:∀id∈x.k,id<x.s.length∧x.s.getD id .dead=s'.getD id .dead:=by have:=hok.2;unfold Tr.G8 at this;rw [he] at this;exact this.1
   have hnext:x.dS=s':=by unfold Tr.dS;rw [he]
   have hrel:bj w0 M own (bm x.s) w:=by
    rw [← show bV tr (bm s0) L ops.size=bm x.s from funext fun id=>F2 id (.inr (.inr (.inr ⟨_,_,hfp⟩)))];exact inv.rel
   have hnone:∀id,x.s.length≤id→¬(M.box id≠none∨∃v,M.bG id v≠none):=by
    intro id hid h
    rcases inv.live _ h with q|⟨j,y,q1,q2,q3,q4⟩
    ·omega
    ·have hy:y.fp= .nw id∨∃l kc,y.fp= .all l kc:=yC q3 q4
     rcases Nat.lt_trichotomy j i with c|c|c
     ·have:=a5 j y c q2;omega
     ·subst c;rw [hLi] at q1;cases q1
     ·have:=after c q2 (.inr (by rw [hfp];rcases hy with h|⟨l,kc,h⟩<;>rw [h]<;>rfl))
      rw [q1] at this;cases this
   have hup:M.upto x.s.length:=by
    refine ⟨fun id hid=> ?_,fun id v hid=> ?_⟩
    ·cases e:M.box id with
     |none=>rfl
     |some b=>exact absurd (.inl (by rw [e];simp)) (hnone id hid)
    ·cases e:M.bG id v with
     |none=>rfl
     |some b=>exact absurd (.inr ⟨v,by rw [e];simp⟩) (hnone id hid)
   refine h0.2 w0 M own w a hrel hup hrep K Q fun v M' own' w' le up hw' hr=>hK M' own' w' _ ⟨hclosed,?_,hslots le (by rw [hval];exact hr),by rw [cV];exact inv.defers,?_,inv.le.trans le⟩
   ·rw [show bV tr (bm s0) (im L i) ops.size=bm s' from funext fun id=>by
     by_cases e1:id∈x.k
     ·rw [hsame id (fun h=>by unfold cD at h;rw [he] at h;exact h e1),F2 id (.inr (.inr (.inr ⟨_,_,hfp⟩)))]
      exact (hkk id e1).2
     ·rw [hnew id (hta id e1)]
      unfold bV
      simp only [haddi,hx,he,if_neg e1]]
    exact hw'
   ·intro id h
    have hlt:id<s'.length:=by
     rcases Nat.lt_or_ge id s'.length with q|q
     ·exact q
     ·rcases h with h|⟨v,h⟩
      ·exact absurd (up.1 id q) h
      ·exact absurd (up.2 id v q) h
    rcases Nat.lt_or_ge id x.s.length with q|q
    ·exact liveLow id (.inr ⟨_,_,hfp⟩) q
    ·exact .inr ⟨i,x,haddi,hx,q,by rw [hnext];exact hlt⟩
 unfold wpOpIn
 rw [hat]
 simp only []
 replace hok:=hok.1
 unfold Tr.D4 at hok
 split at hok
 ·rename_i hg
  obtain ⟨e0,he,h0⟩:=hok
  have:Region.wanted x.o (yielded ops a.tmps)=true:=by simp [Region.wanted,hg]
  rw [if_pos this]
  exact eff he h0 rr
 ·rename_i j want hg
  have hslot:∀k,(ops[j]?).bind (·.dst)=some k→bk M (x.t.getD k .undef) (a.tmps.getD k undef):=by
   intro k hk
   have:k∈pC ops x.o:=by
    unfold pC
    refine List.mem_append.2 (.inr ?_)
    rw [hg]
    cases hq:ops[j]? with
    |none=>rw [hq] at hk;cases hk
    |some q=>
     rw [hq] at hk
     simp only [Option.bind_some] at hk
     simp only [hq,hk]
     simp
   have h1:=ir inv.um k
   rw [List.getD_eq_getElem?_getD,F1 k this,← List.getD_eq_getElem?_getD] at h1
   exact h1
  have skip:x.e=none→Region.wanted x.o (yielded ops a.tmps)=false→(if Region.wanted x.o (yielded ops a.tmps) then x.o.wpIn (FW rr) 0 P a w K Q else (∀f,x.o.about P w a.eval=some f→(FW rr).fn f)∧K (a.put x.o.dst undef) w):=by
   intro he this
   rw [this]
   refine ⟨fun _ _=>trivial,?_⟩
   have hnt:∀id,¬cD x id:=fun id h=>by unfold cD at h;rw [he] at h;exact h
   have hval:x.val= .aA []:=by unfold Tr.val;rw [he]
   refine hK M own w _ ⟨hclosed,?_,hslots (.refl M) (by rw [hval];exact pf),by rw [cV];exact inv.defers,liveOld,inv.le⟩
   rw [show bV tr (bm s0) (im L i) ops.size=bV tr (bm s0) L ops.size from funext fun id=>hsame id (hnt id)]
   exact inv.rel
  rcases hok with ⟨b,hb,hcase⟩|⟨hb,he⟩
  ·have hy:yielded ops a.tmps j=some b:=qV (M:=M) (t:=x.t) hslot hb
   rcases hcase with ⟨rfl,e0,he,h0⟩|⟨hne,he⟩
   ·have:Region.wanted x.o (yielded ops a.tmps)=true:=by simp [Region.wanted,hg,hy]
    rw [if_pos this]
    exact eff he h0 rr
   ·exact skip he (by simp [Region.wanted,hg,hy,hne])
  ·have hy:yielded ops a.tmps j=none:=nK (M:=M) (t:=x.t) hslot hb
   exact skip he (by simp [Region.wanted,hg,hy])
theorem mZ {listed:Array Bool} (hl:listed.size=ops.size) (i:Nat):i∈Region.ready .any ops listed↔i<ops.size∧listed.getD i false=false∧yd ops (fun j=>listed.getD j false) i:=by
 unfold Region.ready
 rw [List.mem_filter,List.mem_range]
 constructor
 ·rintro ⟨h1,h2⟩
  have ho:ops[i]? =some ops[i]:=by simp [h1]
  rw [ho] at h2
  simp only [Option.map_some,Option.getD_some,Bool.and_eq_true,Bool.not_eq_true',Array.all_eq_true_iff_forall_mem] at h2
  refine ⟨h1,?_,?_⟩
  ·have:=h2.1
   rw [Array.getD_eq_getD_getElem?] at this ⊢
   cases e:listed[i]? with
   |none=>rfl
   |some b=>rw [e] at this;exact this
  ·intro o hoo e he hb
   rw [ho] at hoo
   obtain rfl:=Option.some.inj hoo
   have:=h2.2 e (by simpa using he)
   rw [hb] at this
   simpa using this
 ·rintro ⟨h1,h2,h3⟩
  refine ⟨h1,?_⟩
  have ho:ops[i]? =some ops[i]:=by simp [h1]
  rw [ho]
  simp only [Option.map_some,Option.getD_some,Bool.and_eq_true,Bool.not_eq_true',Array.all_eq_true_iff_forall_mem]
  refine ⟨?_,fun e he=> ?_⟩
  ·rw [Array.getD_eq_getD_getElem?] at h2 ⊢
   have:listed[i]? =some listed[i]:=by simp [hl,h1]
   rw [this] at h2 ⊢
   exact h2
  ·cases hb:Region.binds .any e with
   |false=>rfl
   |true=>
    have:=h3 _ ho e (by simpa using he) hb
    simpa using this
theorem Dg (htr:Trace P ops ops.toList t0 s0 tr tn sn) (hd:lY ops ((tr.map Tr.fp).reverse++ [])=true) {Q:Exit→Act→World→Prop}
  (hq:∀M' own' w' a',M0.Le M'→M'.upto sn.length→bj w0 M' own' (bm sn) w'→bS M' tn a'.tmps→a'.defers=df→Q .normal a' w') (rr:Option Nat):
  ∀(fuel:Nat) (listed:Array Bool) (M:MM) (own:Nat→Option Nat) (w:World) (a:Act),listed.size=ops.size→listed.toList.count false≤fuel→Fe df P ops t0 s0 tr w0 M0 (fun j=>listed.getD j false) M own w a→wpAnyIn (FW rr) 0 P .any ops Q fuel listed a w:=by
 obtain ⟨hlen,hedge,_⟩:=p4 hd
 obtain ⟨hall,hT,hS⟩:=p5 htr
 have fin:∀ {listed:Array Bool} {M:MM} {own:Nat→Option Nat} {w:World} {a:Act},(∀j,j<ops.size→listed.getD j false=true)→Fe df P ops t0 s0 tr w0 M0 (fun j=>listed.getD j false) M own w a→Q .normal a w:=by
  intro listed M own w a hdone inv
  have e1:eN tr t0 (fun j=>listed.getD j false) ops.size=tn:=by
   rw [← hT,hlen]
   apply List.ext_getElem?
   intro k
   exact iZ tr t0 ops.size (fun j x hj _ _=>hdone j hj)
  have e2:bV tr (bm s0) (fun j=>listed.getD j false) ops.size=bm sn:=by
   rw [← hS,hlen]
   funext id
   exact hO tr (bm s0) ops.size (fun j x hj _ _=>hdone j hj)
  have hnone:∀id,sn.length≤id→¬(M.box id≠none∨∃v,M.bG id v≠none):=by
   intro id hid h
   rcases inv.live _ h with q|⟨j,y,q1,q2,q3,q4⟩
   ·have:=iv htr;omega
   ·have:=(hall j y q2).2.2.2.1;omega
  refine hq M own w a inv.le ⟨fun id hid=> ?_,fun id v hid=> ?_⟩ (e2▸inv.rel) (e1▸inv.um) inv.defers
  ·cases e:M.box id with
   |none=>rfl
   |some b=>exact absurd (.inl (by rw [e];simp)) (hnone id hid)
  ·cases e:M.bG id v with
   |none=>rfl
   |some b=>exact absurd (.inr ⟨v,by rw [e];simp⟩) (hnone id hid)
 have nothing:∀ {listed:Array Bool},listed.size=ops.size→Region.ready .any ops listed= []→∀j,j<ops.size→listed.getD j false=true:=by
  intro listed hl hr j
  induction j using Nat.strongRecOn with
  |_ j ih=>
   intro hj
   cases e:listed.getD j false with
   |true=>rfl
   |false=>
    have:j∈Region.ready .any ops listed:=(mZ hl j).2 ⟨hj,e,fun o ho ed he hb=>ih ed.on (hedge j o ho ed he hb) (by have:=hedge j o ho ed he hb;omega)⟩
    rw [hr] at this
    cases this
 intro fuel
 induction fuel with
 |zero=>
  intro listed M own w a hl hc inv
  have hdone:∀j,j<ops.size→listed.getD j false=true:=by
   intro j hj
   have h0:listed.toList.count false=0:=by omega
   rw [List.count_eq_zero] at h0
   have hj':j<listed.size:=by omega
   rw [Array.getD_eq_getD_getElem?]
   have:listed[j]? =some listed[j]:=by simp [hj']
   rw [this]
   cases e:listed[j] with
   |true=>simp
   |false=>exact absurd (by rw [← e];simp) h0
  refine ⟨?_,fin hdone inv⟩
  apply List.eq_nil_iff_forall_not_mem.2
  intro i hi
  have:=(mZ hl i).1 hi
  rw [hdone i this.1] at this
  exact absurd this.2.1 (by simp)
 |succ fuel ih=>
  intro listed M own w a hl hc inv
  refine ⟨fun hr=>fin (nothing hl hr) inv,fun i hi=> ?_⟩
  obtain ⟨h1,h2,h3⟩:=(mZ hl i).1 hi
  have hx:tr[i]? =some (tr[i]'(by omega)):=by simp [show i<tr.length by omega]
  refine zg htr hd inv hx h2 h3 (fun M' own' w' a' inv'=>ih _ M' own' w' a' (by simp [hl]) ?_ ?_) rr
  ·have hlt:i<listed.toList.length:=by simp [hl,h1]
   have hget:listed.toList[i]=false:=by
    rw [Array.getD_eq_getD_getElem?] at h2
    have:listed[i]? =some listed[i]:=by simp [hl,h1]
    rw [this] at h2
    simpa using h2
   have hset:(listed.setIfInBounds i true).toList=listed.toList.set i true:=by simp
   rw [hset,List.count_set hlt]
   have hpos:0<listed.toList.count false:=List.count_pos_iff.2 (by rw [← hget];simp)
   rw [hget]
   rw [show (if (false==false)=true then 1 else 0)=1 from rfl,show (if (true==false)=true then 1 else 0)=0 from rfl]
   omega
  ·have:(fun j=>(listed.setIfInBounds i true).getD j false)=im (fun j=>listed.getD j false) i:=by
    funext j
    unfold im
    simp only [Array.getD_eq_getD_getElem?]
    by_cases e:j=i
    ·subst e;simp [hl,h1]
    ·rw [Array.getElem?_setIfInBounds_ne (Ne.symm e),if_neg e]
   rw [this]
   exact inv'
theorem uG (htr:Trace P ops ops.toList t0 s0 tr tn sn) (hd:lY ops ((tr.map Tr.fp).reverse++ [])=true) (hm:P.follows .mixedOrders=true) {M:MM} {own:Nat→Option Nat} {w:World} {a:Act} (id:Nat)
  (hw:bj w0 M own (bm s0) w) (hu:M.upto s0.length) (ht:bS M t0 a.tmps) (hdf:a.defers=df) {Q:Exit→Act→World→Prop} (rr:Option Nat)
  (hq:∀M' own' w' a',M.Le M'→M'.upto sn.length→bj w0 M' own' (bm sn) w'→bS M' tn a'.tmps→a'.defers=df→Q .normal a' w'):(Code.region id ops true).wpIn (FW rr) 0 P Q a w:=by
 refine wpIn_region_any hm (Dg (w0:=w0) (M0:=M) htr hd hq rr ops.size _ M own _ a (by simp) ?_ ?_)
 ·rw [Array.toList_replicate];simp
 ·have hL:∀j,(Array.replicate ops.size false).getD j false=false:=fun j=>by
   rw [Array.getD_eq_getD_getElem?,Array.getElem?_replicate]
   split<;>rfl
  have eT:∀k,eN tr t0 (fun j=>(Array.replicate ops.size false).getD j false) k=t0:=by
   intro k
   induction k with
   |zero=>rfl
   |succ k ih=>unfold eN;simp only [hL k];exact ih
  have eS:∀k,bV tr (bm s0) (fun j=>(Array.replicate ops.size false).getD j false) k=bm s0:=by
   intro k
   induction k with
   |zero=>rfl
   |succ k ih=>unfold bV;simp only [hL k];exact ih
  refine ⟨fun j hj=> ?_,?_,?_,hdf,?_,.refl M⟩
  ·rw [hL j] at hj;cases hj
  ·rw [eS];exact hw.drew
  ·rw [eT];exact ht
  ·intro id h
   left
   rcases Nat.lt_or_ge id s0.length with q|q
   ·exact q
   ·rcases h with h|⟨v,h⟩
    ·exact absurd (hu.1 id q) h
    ·exact absurd (hu.2 id v q) h
end
end Go.Ev
