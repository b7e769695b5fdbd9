import Derived.Test.YtbfpahigdpigpaaGreatS02
open Option.some renaming inj→Xo
open Bool renaming and_eq_true→Xp,or_eq_true→XM,not_eq_true'→X8
open List renaming getD_eq_getElem?_getD→Xr,length_append→Xu,length_cons→Xx,getElem?_eq_none→Xy,length_nil→XE,getElem?_cons_succ→Yw,mem_cons→Yx,getElem?_set_ne→YE
open Nat renaming le_refl→XC,lt_or_ge→XL,beq_eq→XR,zero_add→Yl,ble_eq→YB
open Array renaming getElem?_toList→XN,getD_eq_getD_getElem? →XV,getElem?_eq_none→Ye,length_toList→Yf,getElem?_setIfInBounds_ne→Yi
open Option renaming getD_some→Yp,map_some→YI,bind_some→YK
open Go.Region renaming wanted→Ys
/- Contracts and plain laws that a statement's proof leans on (texts merged:EvN). -/
set_option linter.unusedVariables false
set_option linter.unusedSimpArgs false
namespace Go.Ev
open Go Go.RowKit
section
variable {ρ':Type}
mutual
theorem force_eq:∀(d:D) (K:D→Option ρ'),force d K=K d
  | .undef,K=>by simp [force]
  | .int _ _,K=>by simp [force]
  | .bool _,K=>by simp [force]
  | .str _,K=>by simp [force]
  | .ik,K=>by simp [force]
  | .ptr _ _ _,K=>by simp [force]
  | .eV _ _ _,K=>by simp [force]
  | .gj _,K=>by simp [force]
  | .je _,K=>by simp [force]
  | .ez _ _ _,K=>by simp [force]
  | .sub _ _ _ _ _,K=>by simp [force]
  | .bc _ _ _,K=>by simp [force]
  | .cm,K=>by simp [force]
  | .fn f a b,K=>by rw [force,gJ,gJ]
  | .agg cs,K=>by rw [force,gJ]
  | .aQ cs,K=>by rw [force,gJ]
theorem gJ:∀(l:List D) (K:List D→Option ρ'),iY l K=K l
  | [],K=>by simp [iY]
  |d::r,K=>by rw [iY,force_eq,gJ]
end
theorem Cg:∀(l:List D) (i:Nat) (d:D) (K:List D→Option ρ'),Du l i d K=K (l.set i d)
 | [],i,d,K=>by simp [Du]
 |a::r,0,d,K=>by simp [Du]
 |a::r,i+1,d,K=>by rw [Du,Cg];rfl
theorem kA (t:List D) (dst:Option Nat) (d:D) (K:List D→Option ρ'):m9 t dst d K=K (put t dst d):=by
 cases dst with
 |none=>rfl
 |some i=>simp only [m9,force_eq,Cg,put]
theorem iQ:∀(l:List Ob) (i:Nat) (d:Ob) (K:List Ob→Option ρ'),kz l i d K=K (l.set i d)
 | [],i,d,K=>by simp [kz]
 |a::r,0,d,K=>by simp [kz]
 |a::r,i+1,d,K=>by rw [kz,iQ];rfl
theorem rP:∀(es:List (List D×D)) (K:List (List D×D)→Option ρ'),qt es K=K es
 | [],_=>rfl
 |(n,d)::r,K=>by simp [qt,gJ,force_eq,rP r]
theorem AI (o:Ob) (K:Ob→Option ρ'):wz o K=K o:=by cases o<;>simp [wz,gJ,rP]
theorem rO {ρ':Type} {P:Program} {r:ρ'} {z:Z P} {o:Ob} {k:Z P→Ob→Option ρ'} (h:pn z o k=some r):∃z',k z' o=some r∧(z'.c→z.c):=by
 unfold pn at h
 split at h
 ·exact ⟨_,h,id⟩
 ·rw [AI] at h
  exact ⟨_,h,id⟩
theorem oY:∀(l:List Ob) (o:Ob) (K:List Ob→Option ρ'),nq l o K=K (l++ [o])
 | [],o,K=>by simp [nq]
 |a::r,o,K=>by rw [nq,oY];rfl
end
structure Tr where
  o:Oper
  t:List D
  s:List Ob
  e:Option jI
  k:List Nat
  kc:List (Nat×Nat)
def Tr.val (x:Tr):D:=match x.e with|none=> .aQ []|some e=>e.val x.s.length
def Tr.CE (x:Tr):List D:=put x.t x.o.dst x.val
def Tr.fB (x:Tr):List Ob:=match x.e with
  |some (.gN i _ o' _)=>x.s.set i o'
  |some (.new o' _)=>x.s++ [o']
  |some (.all s' _)=>s'
  |_=>x.s
def Tr.fp (x:Tr):FP:=match x.e with
  |some (.read i _ _)=> .rd i
  |some (.iR i j _)=> .sO i j
  |some (.gN i _ _ _)=> .wr i
  |some (.new _ _)=> .nw x.s.length
  |some (.all _ _)=> .all x.k x.kc
  |_=> .MS
def Tr.Oo (x:Tr):Prop:=match x.e with
  |some (.all s' _)=>(∀i∈x.k,i<x.s.length∧x.s.getD i .dead=s'.getD i .dead)∧∀i j,(i,j)∈x.kc→gM (x.s.getD i .dead) j=gM (s'.getD i .dead) j
  |_=>True
def Tr.KH (P:Program) (ops:Array Oper) (x:Tr):Prop:=
  match x.o.guard with
  |none=> ∃e,x.e=some e∧jM P x.o (cU x.t) x.s e
  |some (j,want)=>(∃b,ke ops x.t j= .bool b∧((b=want∧∃e,x.e=some e∧jM P x.o (cU x.t) x.s e)∨(b≠want∧x.e=none)))∨(ke ops x.t j= .aQ []∧x.e=none)
def Tr.ok (P:Program) (ops:Array Oper) (x:Tr):Prop:=x.KH P ops∧x.Oo
theorem ph {s s':List Ob} :∀(l:List (Nat×Ob)) {c:Prop},rE s.length l=true→CS s s' l c→c∧∀i∈mN l,i<s.length∧s.getD i .dead=s'.getD i .dead
 | [],c,_,h=>⟨h,fun i hi=>by simp [mN] at hi⟩
 |(i,o)::r,c,hl,h=>by
  simp only [rE] at hl
  split at hl
  ·rename_i QQ
   obtain ⟨⟨⟨h1,h2⟩,h3⟩,h4⟩:=ph r hl h
   refine ⟨h3,fun j hj=> ?_⟩
   rw [mN,Yx] at hj
   rcases hj with rfl|hj
   ·exact ⟨Nat.lt_of_succ_le (by simpa [Nat.blt,YB] using QQ),h1.symm.trans h2⟩
   ·exact h4 j hj
  ·cases hl
theorem ug {s s':List Ob} :∀(l:List (Nat×Nat×D)) {c:Prop},Js s s' l c→c∧∀i j,(i,j)∈oC l→gM (s.getD i .dead) j=gM (s'.getD i .dead) j
 | [],c,h=>⟨h,fun i j hi=>by simp [oC] at hi⟩
 |(i,j,d)::r,c,h=>by
  obtain ⟨⟨⟨h1,h2⟩,h3⟩,h4⟩:=ug r h
  refine ⟨h3,fun a b hj=> ?_⟩
  rw [oC,Yx] at hj
  rcases hj with e|hj
  ·cases e;exact h1.symm.trans h2
  ·exact h4 a b hj
theorem Fg {ρ':Type} {P:Program} {r:ρ'} {z:Z P} {s s':List Ob} {k:Z P→List Nat→List (Nat×Nat)→Option ρ'} (h:CQ z s s' k=some r):∃z' l kc,k z' l kc=some r∧(z'.c→z.c∧(∀i∈l,i<s.length∧s.getD i .dead=s'.getD i .dead)∧∀i j,(i,j)∈kc→gM (s.getD i .dead) j=gM (s'.getD i .dead) j):=by
 unfold CQ at h
 split at h
 ·rename_i l rest hz
  obtain ⟨hl,h⟩:=cr h
  refine ⟨_,_,_,h,fun hc=> ?_⟩
  obtain ⟨h1,h2⟩:=ph l hl hc
  exact ⟨h1,h2,fun i j hi=>by simp at hi⟩
 ·rename_i cs l rest hz
  obtain ⟨hl,h⟩:=cr h
  refine ⟨_,_,_,h,fun hc=> ?_⟩
  obtain ⟨h0,h3⟩:=ug cs hc
  obtain ⟨h1,h2⟩:=ph l hl h0
  exact ⟨h1,h2,h3⟩
 ·exact ⟨z,[],[],h,fun c=>⟨c,fun i hi=>by simp at hi,fun i j hi=>by simp at hi⟩⟩
def Trace (P:Program) (ops:Array Oper):List Oper→List D→List Ob→List Tr→List D→List Ob→Prop
  | [],t,s,tr,t',s'=>tr= []∧t'=t∧s'=s
  |o::rest,t,s,tr,t',s'=> ∃x xs,tr=x::xs∧x.o=o∧x.t=t∧x.s=s∧x.ok P ops∧Trace P ops rest x.CE x.fB xs t' s'
theorem gw {ρ':Type} {P:Program} {r:ρ'} {inl:C7 P ρ'} (Re:lb P inl) {ops:Array Oper} :∀ {rest:List Oper} {t:List D} {s:List Ob} {Sp:List FP} {z:Z P} {K:List D→List Ob→List FP→Z P→Option ρ'},ma P inl ops rest t s Sp z K=some r→
  ∃tr t' s' z',K t' s' ((tr.map Tr.fp).reverse++Sp) z'=some r∧(z'.c→z.c∧Trace P ops rest t s tr t' s')
 | [],t,s,Sp,z,K,h=>⟨[],t,s,z,h,fun c=>⟨c,rfl,rfl,rfl⟩⟩
 |o::rest,t,s,Sp,z,K,h=>by
  have run:∀ {z:Z P} {want:Prop},(OW P inl o t s z fun z e=>match e with
    | .pure d=>m9 t o.dst d fun t'=>ma P inl ops rest t' s (.MS::Sp) z K
    | .read id _ d=>m9 t o.dst d fun t'=>ma P inl ops rest t' s (.rd id::Sp) z K
    | .iR id j d=>m9 t o.dst d fun t'=>ma P inl ops rest t' s (.sO id j::Sp) z K
    | .gN id _ o' d=>m9 t o.dst d fun t'=>pn z o' fun z o2=>kz s id o2 fun s'=>ma P inl ops rest t' s' (.wr id::Sp) z K
    | .new o' mk=>m9 t o.dst (mk s.length) fun t'=>pn z o' fun z o2=>nq s o2 fun s'=>ma P inl ops rest t' s' (.nw s.length::Sp) z K
    | .all s' d=>m9 t o.dst d fun t'=>CQ z s s' fun z l kc=>ma P inl ops rest t' s' (.all l kc::Sp) z K)=some r→
    ∃e l kc tr t' s' z',K t' s' ((tr.map Tr.fp).reverse++((⟨o,t,s,some e,l,kc⟩:Tr).fp::Sp)) z'=some r∧(z'.c→z.c∧jM P o (cU t) s e∧(⟨o,t,s,some e,l,kc⟩:Tr).Oo∧Trace P ops rest (⟨o,t,s,some e,l,kc⟩:Tr).CE (⟨o,t,s,some e,l,kc⟩:Tr).fB tr t' s'):=by
   intro z want h
   obtain ⟨e,z1,h1,h2⟩:=KF Re h
   cases e with
   |pure d=>
    simp only [kA] at h1
    obtain ⟨tr,t',s',z',k1,k2⟩:=gw Re h1
    exact ⟨.pure d,[],[],tr,t',s',z',k1,fun c=>⟨(h2 (k2 c).1).1,(h2 (k2 c).1).2,trivial,(k2 c).2⟩⟩
   |read i ob d=>
    simp only [kA] at h1
    obtain ⟨tr,t',s',z',k1,k2⟩:=gw Re h1
    exact ⟨.read i ob d,[],[],tr,t',s',z',k1,fun c=>⟨(h2 (k2 c).1).1,(h2 (k2 c).1).2,trivial,(k2 c).2⟩⟩
   |iR i j d=>
    simp only [kA] at h1
    obtain ⟨tr,t',s',z',k1,k2⟩:=gw Re h1
    exact ⟨.iR i j d,[],[],tr,t',s',z',k1,fun c=>⟨(h2 (k2 c).1).1,(h2 (k2 c).1).2,trivial,(k2 c).2⟩⟩
   |gN i ob ob' d=>
    simp only [kA] at h1
    obtain ⟨z2,h3,h4⟩:=rO h1
    rw [iQ] at h3
    obtain ⟨tr,t',s',z',k1,k2⟩:=gw Re h3
    exact ⟨.gN i ob ob' d,[],[],tr,t',s',z',k1,fun c=>⟨(h2 (h4 (k2 c).1)).1,(h2 (h4 (k2 c).1)).2,trivial,(k2 c).2⟩⟩
   |new ob mk=>
    simp only [kA] at h1
    obtain ⟨z2,h3,h4⟩:=rO h1
    rw [oY] at h3
    obtain ⟨tr,t',s',z',k1,k2⟩:=gw Re h3
    exact ⟨.new ob mk,[],[],tr,t',s',z',k1,fun c=>⟨(h2 (h4 (k2 c).1)).1,(h2 (h4 (k2 c).1)).2,trivial,(k2 c).2⟩⟩
   |all s2 d=>
    simp only [kA] at h1
    obtain ⟨z2,l,kc,h3,h4⟩:=Fg h1
    obtain ⟨tr,t',s',z',k1,k2⟩:=gw Re h3
    exact ⟨.all s2 d,l,kc,tr,t',s',z',k1,fun c=>⟨(h2 (h4 (k2 c).1).1).1,(h2 (h4 (k2 c).1).1).2,(h4 (k2 c).1).2,(k2 c).2⟩⟩
  unfold ma at h
  simp only at h
  split at h
  ·rename_i hg
   obtain ⟨e,l,kc,tr,t',s',z',k1,k2⟩:=run (want:=True) h
   refine ⟨⟨o,t,s,some e,l,kc⟩::tr,t',s',z',by simpa using k1,fun c=>⟨(k2 c).1,_,_,rfl,rfl,rfl,rfl,⟨?_,(k2 c).2.2.1⟩,(k2 c).2.2.2⟩⟩
   simp only [Tr.KH,hg]
   exact ⟨e,rfl,(k2 c).2.1⟩
  ·rename_i j want hg
   split at h
   ·rename_i b hb
    obtain ⟨z1,⟨h1,h2⟩|⟨h1,h2⟩⟩:=nE h
    ·obtain ⟨e,l,kc,tr,t',s',z',k1,k2⟩:=run (want:=True) h1
     refine ⟨⟨o,t,s,some e,l,kc⟩::tr,t',s',z',by simpa using k1,fun c=>⟨(h2 (k2 c).1).1,_,_,rfl,rfl,rfl,rfl,⟨?_,(k2 c).2.2.1⟩,(k2 c).2.2.2⟩⟩
     simp only [Tr.KH,hg]
     exact .inl ⟨b,hb,.inl ⟨by simpa using (h2 (k2 c).1).2,e,rfl,(k2 c).2.1⟩⟩
    ·rw [kA] at h1
     obtain ⟨tr,t',s',z',k1,k2⟩:=gw Re h1
     refine ⟨⟨o,t,s,none,[],[]⟩::tr,t',s',z',by simpa [Tr.fp] using k1,fun c=>⟨(h2 (k2 c).1).1,_,_,rfl,rfl,rfl,rfl,⟨?_,trivial⟩,(k2 c).2⟩⟩
     simp only [Tr.KH,hg]
     exact .inl ⟨b,hb,.inr ⟨by simpa using (h2 (k2 c).1).2,trivial⟩⟩
   ·rename_i hb
    rw [kA] at h
    obtain ⟨tr,t',s',z',k1,k2⟩:=gw Re h
    refine ⟨⟨o,t,s,none,[],[]⟩::tr,t',s',z',by simpa [Tr.fp] using k1,fun c=>⟨(k2 c).1,_,_,rfl,rfl,rfl,rfl,⟨?_,trivial⟩,(k2 c).2⟩⟩
    simp only [Tr.KH,hg]
    exact .inr ⟨hb,trivial⟩
   ·cases h
theorem jx {M M':MM} (le:M.Le M') {t:List D} {a:Act} (h:cN M t a.tmps) {dst:Option Nat} {d:D} {v:Value} (hr:cz M' d v):cN M' (put t dst d) (a.put dst v).tmps:=by
 cases dst with
 |none=>exact h.mono le
 |some i=>
  refine ⟨by simp [put,Act.put,h.1],fun k d' v' p q=> ?_⟩
  simp only [put,Act.put] at p q
  by_cases e:i=k
  ·subst e
   have QQ:i<t.length:=by
    rcases XL i t.length with x|x
    ·exact x
    ·rw [Xy (by simpa using x)] at p;cases p
   have TX:i<a.tmps.size:=by rw [← h.1];exact QQ
   simp [QQ] at p
   simp [TX] at q
   subst p q
   exact hr
  ·rw [YE e] at p
   rw [Yi e] at q
   exact (h.2 k d' v' p q).mono le
theorem eu (a:Act) (dst:Option Nat) (v:Value):(a.put dst v).defers=a.defers:=by cases dst<;>rfl
theorem tM {M:MM} {ops:Array Oper} {t:List D} {a:Act} {j:Nat} {b:Bool} (h:∀i,(ops[j]?).bind (·.dst)=some i→cz M (t.getD i .undef) (a.tmps.getD i undef)) (hg:ke ops t j= .bool b):yielded ops a.tmps j=some b:=by
 unfold ke at hg
 split at hg
 ·rename_i o ho
  split at hg
  ·rename_i i hi
   have h1:=h i (by simp [ho,hi])
   rw [hg] at h1
   unfold yielded
   simp only [ho,YK,hi]
   generalize hv:a.tmps.getD i undef=v at h1
   cases h1
   rw [XV] at hv
   cases e:a.tmps[i]? with
   |none=>rw [e] at hv;cases hv
   |some u=>rw [e] at hv;simp only [Yp] at hv;subst hv;rfl
  ·cases hg
 ·cases hg
theorem qU {M:MM} :cz M (.aQ []) undef:= .aQ rfl (fun i d v h=>by simp at h)
theorem pJ {M:MM} {ops:Array Oper} {t:List D} {a:Act} {j:Nat} (h:∀i,(ops[j]?).bind (·.dst)=some i→cz M (t.getD i .undef) (a.tmps.getD i undef)) (hg:ke ops t j= .aQ []):yielded ops a.tmps j=none:=by
 unfold ke at hg
 split at hg
 ·rename_i o ho
  split at hg
  ·rename_i i hi
   have h1:=h i (by simp [ho,hi])
   rw [hg] at h1
   unfold yielded
   simp only [ho,YK,hi]
   generalize hv:a.tmps.getD i undef=v at h1
   cases h1
   rw [XV] at hv
   cases e:a.tmps[i]? with
   |none=>rfl
   |some u=>rw [e] at hv;simp only [Yp] at hv;subst hv;rfl
  ·cases hg
 ·cases hg
theorem jV {M:MM} {t:List D} {vs:Array Value} (h:cN M t vs) (i:Nat):cz M (t.getD i .undef) (vs.getD i undef):=by
 cases e:t[i]? with
 |none=>rw [Xr,e];exact .undef _
 |some d=>
  obtain ⟨v,hv,hr⟩:=h.get e
  rw [Xr,e,XV,hv]
  exact hr
theorem lX {s:List Ob} {i:Nat} (h:i<s.length) (o:Ob):ca (s.set i o)=gN (ca s) i o:=by
 funext k
 unfold ca gN
 simp only [Xr]
 by_cases e:k=i
 ·subst e;rw [List.getElem?_set_self h];simp
 ·rw [YE (Ne.symm e),if_neg e]
theorem oU (s:List Ob) (o:Ob):ca (s++ [o])=gN (ca s) s.length o:=by
 funext k
 unfold ca gN
 simp only [Xr,List.getElem?_append]
 by_cases e:k=s.length
 ·subst e;simp
 ·rw [if_neg e]
  split
  ·rfl
  ·rename_i h
   rw [Xy (by simp;omega),Xy (by omega)]
theorem MM.kV {M M':MM} {n m:Nat} (h:M.upto n) (hb:∀j,m≤j→M'.box j=M.box j) (hh:∀j,m≤j→M'.cu j=M.cu j) (hm:n≤m):M'.upto m:=
 ⟨fun id hi=>by rw [hb id hi];exact h.1 id (by omega),fun id v hi=>by rw [hh id hi];exact h.2 id v (by omega)⟩
theorem Dq {P:Program} {ops:Array Oper} {x:Tr} (hx:x.ok P ops) {w0:fg} {M:MM} {own:Nat→Option Nat} {w:World} {a:Act} (hw:cJ w0 M own (ca x.s) w) (hu:M.upto x.s.length) (ht:cN M x.t a.tmps)
  {next:Act→World→Prop} {Q:Exit→Act→World→Prop}
  (hn:∀M' QK w' a',M.Le M'→M'.upto x.fB.length→cJ w0 M' QK (ca x.fB) w'→cN M' x.CE a'.tmps→a'.defers=a.defers→next a' w'):
  (if Ys x.o (yielded ops a.tmps) then J0 P x.o a w next Q else next (a.put x.o.dst undef) w)∧x.s.length≤x.fB.length:=by
 obtain ⟨o,t,s,e,l,kc⟩:=x
 replace hx:=hx.1
 replace hu:M.upto s.length:=hu
 replace hw:cJ w0 M own (ca s) w:=hw
 replace ht:cN M t a.tmps:=ht
 have Uw:∀ {e0:jI},e=some e0→jM P o (cU t) s e0→J0 P o a w next Q∧s.length≤(⟨o,t,s,e,l,kc⟩:Tr).fB.length:=by
  intro e0 he h0
  subst he
  have So:∀y∈o.op.operands,cz M (cU t y) (a.eval y):=fun y _=>nW ht y
  have RU:M.box s.length=none∧∀v,M.cu s.length v=none:=⟨hu.1 _ (XC _),fun v=>hu.2 _ v (XC _)⟩
  cases e0 with
  |pure d=>
   exact ⟨h0 w0 M own _ w a s.length hw So trivial next Q fun v M' QK w' le ad R4 hr=>hn M' QK w' _ le (MM.kV hu (m:=s.length) (fun j _=>by rw [ad.1]) (fun j _=>by rw [ad.2]) (XC _)) R4 (jx le ht hr) (eu _ _ _),XC _⟩
  |iR i j d=>
   exact ⟨h0.2 w0 M own _ w a s.length hw So h0.1.1 next Q fun v M' QK w' le ad R4 hr=>hn M' QK w' _ le (MM.kV hu (m:=s.length) (fun j _=>by rw [ad.1]) (fun j _=>by rw [ad.2]) (XC _)) R4 (jx le ht hr) (eu _ _ _),XC _⟩
  |read i ob d=>
   exact ⟨h0.2 w0 M own _ w a s.length hw So h0.1.1 next Q fun v M' QK w' le ad R4 hr=>hn M' QK w' _ le (MM.kV hu (m:=s.length) (fun j _=>by rw [ad.1]) (fun j _=>by rw [ad.2]) (XC _)) R4 (jx le ht hr) (eu _ _ _),XC _⟩
  |gN i ob ob' d=>
   refine ⟨h0.2 w0 M own _ w a s.length hw So h0.1.1 next Q fun v M' QK w' le ad R4 hr=>hn M' QK w' _ le (by
    simp only [Tr.fB,List.length_set]
    exact MM.kV hu (fun j _=>by rw [ad.1]) (fun j hj=>ad.2 j (by have:=h0.1.2;omega)) (XC _)) (by simp only [Tr.fB];rw [lX h0.1.2];exact R4) (jx le ht hr) (eu _ _ _),by simp [Tr.fB]⟩
  |new ob mk=>
   refine ⟨h0 w0 M own _ w a s.length hw So RU next Q fun v M' QK w' le ad R4 hr=>hn M' QK w' _ le (by
    simp only [Tr.fB,Xu,List.length_singleton]
    exact MM.kV hu (fun j hj=>ad.1 j (by omega)) (fun j hj=>ad.2 j (by omega)) (by omega)) (by simp only [Tr.fB];rw [oU];exact R4) (jx le ht hr) (eu _ _ _),by simp [Tr.fB]⟩
  |all s' d=>
   exact ⟨h0.2 w0 M own w a hw hu So next Q fun v M' QK w' le up R4 hr=>hn M' QK w' _ le up R4 (jx le ht hr) (eu _ _ _),h0.1⟩
 unfold Tr.KH at hx
 simp only at hx
 split at hx
 ·rename_i hg
  obtain ⟨e0,he,h0⟩:=hx
  obtain ⟨k1,k2⟩:=Uw he h0
  refine ⟨?_,k2⟩
  have:Ys o (yielded ops a.tmps)=true:=by simp [Ys,hg]
  rw [if_pos this]
  exact k1
 ·rename_i j want hg
  rcases hx with ⟨b,hb,Ry⟩|⟨hb,rfl⟩
  ·have hy:=tM (M:=M) (a:=a) (fun i _=>jV ht i) hb
   rcases Ry with ⟨rfl,e0,he,h0⟩|⟨RR,rfl⟩
   ·obtain ⟨k1,k2⟩:=Uw he h0
    refine ⟨?_,k2⟩
    have:Ys o (yielded ops a.tmps)=true:=by simp [Ys,hg,hy]
    rw [if_pos this]
    exact k1
   ·have:Ys o (yielded ops a.tmps)=false:=by simp [Ys,hg,hy,RR]
    rw [this]
    exact ⟨hn M own w _ (.refl M) hu hw (jx (.refl M) ht qU) (eu _ _ _),XC _⟩
  ·have hy:=pJ (M:=M) (a:=a) (fun i _=>jV ht i) hb
   have:Ys o (yielded ops a.tmps)=false:=by simp [Ys,hg,hy]
   rw [this]
   exact ⟨hn M own w _ (.refl M) hu hw (jx (.refl M) ht qU) (eu _ _ _),XC _⟩
theorem pF {P:Program} {ops:Array Oper} {w0:fg} {Q:Exit→Act→World→Prop} {df:List Deferred} (rr:Option Nat):∀ {rest:List Oper} {t:List D} {s:List Ob} {tr:List Tr} {t':List D} {s':List Ob},Trace P ops rest t s tr t' s'→
  ∀ {M:MM} {own:Nat→Option Nat} {w:World} {a:Act} (k:Nat),ops.toList.drop k=rest→cJ w0 M own (ca s) w→M.upto s.length→cN M t a.tmps→a.defers=df→
  (∀M' QK w' a',M.Le M'→M'.upto s'.length→cJ w0 M' QK (ca s') w'→cN M' t' a'.tmps→a'.defers=df→Q .normal a' w')→wpOpsIn (FW rr) 0 P ops Q (List.range' k rest.length) a w
 | [],t,s,tr,t',s',h,M,own,w,a,k,hk,hw,hu,ht,hd,hq=>by
  obtain ⟨rfl,rfl,rfl⟩:=h
  exact hq M own w a (.refl M) hu hw ht hd
 |o::rest,t,s,tr,t',s',h,M,own,w,a,k,hk,hw,hu,ht,hd,hq=>by
  obtain ⟨x,xs,rfl,rfl,rfl,rfl,RN,h⟩:=h
  have S7:ops[k]? =some x.o:=by
   rw [← XN]
   have:=congrArg (fun l=>l[0]?) hk
   simpa using this
  have Vn:ops.toList.drop (k+1)=rest:=by
   have:=congrArg List.tail hk
   simpa using this
  rw [Xx,List.range'_succ]
  simp only [wpOpsIn,S7]
  have hs:=(Dq (next:=wpOpsIn (FW rr) 0 P ops Q (List.range' (k+1) rest.length)) (Q:=Q) RN hw hu ht fun M' QK w' a' le up R4 U5 Vw=>pF rr h (k+1) Vn R4 up U5 (by rw [Vw];exact hd) fun M2 R3 w2 a2 S4 up2 St Vf hd2=>hq M2 R3 w2 a2 (le.trans S4) up2 St Vf hd2).1
  split
  ·rename_i WR
   rw [if_pos WR] at hs
   exact hs rr
  ·rename_i WR
   rw [if_neg WR] at hs
   exact ⟨fun _ _=>trivial,hs⟩
theorem nP {P:Program} {ops:Array Oper} :∀ {rest:List Oper} {t:List D} {s:List Ob} {tr:List Tr} {t':List D} {s':List Ob},Trace P ops rest t s tr t' s'→∀(i:Nat) (x:Tr),tr[i]? =some x→rest[i]? =some x.o∧x.ok P ops
 | [],_,_,_,_,_,h,i,x,hx=>by obtain ⟨rfl,_⟩:=h;simp at hx
 |o::rest,_,_,_,_,_,h,i,x,hx=>by
  obtain ⟨y,xs,rfl,ho,_,_,RN,h⟩:=h
  cases i with
  |zero=>simp at hx;subst hx;exact ⟨by simp [ho],RN⟩
  |succ i=>exact nP h i x (by simpa using hx)
theorem tA {P:Program} {ops:Array Oper} {x:Tr} (h:x.ok P ops):x.s.length≤x.fB.length:=by
 obtain ⟨o,t,s,e,l,kc⟩:=x
 replace h:=h.1
 have Uw:∀ {e0:jI},e=some e0→jM P o (cU t) s e0→s.length≤(⟨o,t,s,e,l,kc⟩:Tr).fB.length:=by
  intro e0 he h0
  subst he
  cases e0 with
  |pure d=>exact XC _
  |read i ob d=>exact XC _
  |iR i j d=>exact XC _
  |gN i ob ob' d=>simp [Tr.fB]
  |new ob mk=>simp [Tr.fB]
  |all s' d=>exact h0.1
 unfold Tr.KH at h
 simp only at h
 split at h
 ·obtain ⟨e0,he,h0⟩:=h;exact Uw he h0
 ·obtain ⟨b,_,⟨_,e0,he,h0⟩|⟨_,rfl⟩⟩|⟨_,rfl⟩:=h
  ·exact Uw he h0
  ·exact XC _
  ·exact XC _
theorem jZ {P:Program} {ops:Array Oper} :∀ {rest:List Oper} {t:List D} {s:List Ob} {tr:List Tr} {t':List D} {s':List Ob},Trace P ops rest t s tr t' s'→s.length≤s'.length
 | [],_,_,_,_,_,h=>by obtain ⟨_,_,rfl⟩:=h;exact XC _
 |o::rest,_,_,_,_,_,h=>by
  obtain ⟨x,xs,rfl,_,_,rfl,RN,h⟩:=h
  exact Nat.le_trans (tA RN) (jZ h)
theorem nA (acc:List Nat):∀(es:List Edge) (m k:Nat),(es.foldl (fun m e=>match Region.binds .any e with|true=>m|||(1<<<e.on)|||acc.getD e.on 0|false=>m) m).testBit k=true→
  m.testBit k=true∨∃e∈es,Region.binds .any e=true∧(k=e.on∨(acc.getD e.on 0).testBit k=true)
 | [],m,k,h=> .inl h
 |e::es,m,k,h=>by
  rw [List.foldl_cons] at h
  rcases nA acc es _ k h with h|⟨e',he,h1,h2⟩
  ·split at h
   ·rename_i hb
    rw [Nat.testBit_or,Nat.testBit_or,XM,XM] at h
    rcases h with (h|h)|h
    ·exact .inl h
    ·refine .inr ⟨e,by simp,hb,.inl ?_⟩
     rw [Nat.one_shiftLeft,Nat.testBit_two_pow] at h
     exact (of_decide_eq_true h).symm
    ·exact .inr ⟨e,by simp,hb,.inr h⟩
   ·exact .inl h
  ·exact .inr ⟨e',by simp [he],h1,h2⟩
def xb (o:Oper) (acc:List Nat):Nat:=o.after.toList.foldl (fun m e=>match Region.binds .any e with|true=>m|||(1<<<e.on)|||acc.getD e.on 0|false=>m) 0
theorem jB:∀(rest:List Oper) (acc:List Nat),(iC rest acc).length=acc.length+rest.length∧(iC rest acc).take acc.length=acc∧
  ∀(j:Nat) (o:Oper),rest[j]? =some o→(iC rest acc)[acc.length+j]? =some (xb o ((iC rest acc).take (acc.length+j)))
 | [],acc=>⟨by simp [iC],by simp [iC],fun j o h=>by simp at h⟩
 |o::rest,acc=>by
  have ih:=jB rest (acc++ [xb o acc])
  have hun:iC (o::rest) acc=iC rest (acc++ [xb o acc]):=rfl
  rw [hun]
  obtain ⟨h1,h2,h3⟩:=ih
  have VD:(iC rest (acc++ [xb o acc])).take acc.length=acc:=by
   have:=congrArg (fun l=>l.take acc.length) h2
   simp only [Xu,List.length_singleton,List.take_take] at this
   rw [show min acc.length (acc.length+1)=acc.length by omega] at this
   rw [this]
   simp
  refine ⟨by rw [h1];simp;omega,VD,fun j q hq=> ?_⟩
  cases j with
  |zero=>
   simp at hq
   subst hq
   rw [Nat.add_zero,VD]
   have:=congrArg (fun l=>l[acc.length]?) h2
   simp only [Xu,List.length_singleton,List.getElem?_take] at this
   rw [if_pos (by omega)] at this
   rw [this]
   simp
  |succ j=>
   have:=h3 j q (by simpa using hq)
   simp only [Xu,List.length_singleton] at this
   rw [show acc.length+1+j=acc.length+(j+1) by omega] at this
   exact this
def Cr (ops:Array Oper) (L:Nat→Bool) (j:Nat):Prop:= ∀o,ops[j]? =some o→∀e∈o.after.toList,Region.binds .any e=true→L e.on=true
def closed (ops:Array Oper) (L:Nat→Bool):Prop:= ∀i,L i=true→Cr ops L i
theorem reach {ops:Array Oper} {L:Nat→Bool} (hc:closed ops L):∀(n j:Nat),j≤n→Cr ops L j→∀k,((iC ops.toList []).getD j 0).testBit k=true→L k=true:=by
 intro n
 induction n with
 |zero=>
  intro j hj hp k hk
  obtain rfl:j=0:=by omega
  cases ho:ops[0]? with
  |none=>
   have hlen:=(jB ops.toList []).1
   have:(iC ops.toList [])[0]? =none:=by
    rw [List.getElem?_eq_none_iff,hlen,XE,Yl,Yf]
    exact Array.getElem?_eq_none_iff.1 ho
   rw [Xr,this] at hk
   simp at hk
  |some o=>
   have h:=(jB ops.toList []).2.2 0 o (by rw [XN];exact ho)
   simp only [XE,Yl,List.take_zero] at h
   rw [Xr,h,Yp] at hk
   rcases nA _ _ _ _ hk with h0|⟨e,he,h1,h2⟩
   ·simp at h0
   ·rcases h2 with rfl|h2
    ·exact hp o ho e he h1
    ·simp at h2
 |succ n ih=>
  intro j hj hp k hk
  cases ho:ops[j]? with
  |none=>
   have hlen:=(jB ops.toList []).1
   have:(iC ops.toList [])[j]? =none:=by
    rw [List.getElem?_eq_none_iff,hlen,XE,Yl,Yf]
    exact Array.getElem?_eq_none_iff.1 ho
   rw [Xr,this] at hk
   simp at hk
  |some o=>
   have h:=(jB ops.toList []).2.2 j o (by rw [XN];exact ho)
   simp only [XE,Yl] at h
   rw [Xr,h,Yp] at hk
   rcases nA _ _ _ _ hk with h0|⟨e,he,h1,h2⟩
   ·simp at h0
   ·have hL:=hp o ho e he h1
    rcases h2 with rfl|h2
    ·exact hL
    ·rw [Xr,List.getElem?_take] at h2
     split at h2
     ·rename_i QQ
      refine ih e.on (by omega) (hc _ hL) k ?_
      rw [Xr]
      exact h2
     ·simp at h2
section
variable (tr:List Tr) (t0:List D) (σ0:Nat→Ob)
def dS (x:Tr) (id:Nat):Prop:=match x.e with
  |some (.gN i _ _ _)=>id=i
  |some (.new _ _)=>id=x.s.length
  |some (.all _ _)=>id∉x.k
  |_=>False
def gq (L:Nat→Bool):Nat→List D
  |0=>t0
  |k+1=>match L k,tr[k]? with
    |true,some x=>put (gq L k) x.o.dst x.val
    |_,_=>gq L k
def di (L:Nat→Bool):Nat→Nat→Ob
  |0=>σ0
  |k+1=>match L k,tr[k]? with
    |true,some x=>match x.e with
      |some (.gN i _ o' _)=>gN (di L k) i o'
      |some (.new o' _)=>gN (di L k) x.s.length o'
      |some (.all s' _)=>fun id=>if id∈x.k then di L k id else ca s' id
      |_=>di L k
    |_,_=>di L k
theorem js {t:List D} {dst:Option Nat} {d:D} {i:Nat} (h:dst≠some i):(put t dst d)[i]? =t[i]? :=by
 cases dst with
 |none=>rfl
 |some j=>exact YE (fun e=>h (by rw [e]))
theorem Aa (t:List D) (dst:Option Nat) (d:D):(put t dst d).length=t.length:=by cases dst<;>simp [put]
theorem hQ (L:Nat→Bool):∀k,(gq tr t0 L k).length=t0.length
 |0=>rfl
 |k+1=>by
  unfold gq
  split
  ·rw [Aa,hQ L k]
  ·exact hQ L k
theorem kI {L L':Nat→Bool} {i:Nat} :∀k,(∀j x,j<k→tr[j]? =some x→x.o.dst=some i→L j=L' j)→(gq tr t0 L k)[i]? =(gq tr t0 L' k)[i]?
 |0,_=>rfl
 |k+1,h=>by
  have ih:=kI (L:=L) (L':=L') (i:=i) k (fun j x hj=>h j x (by omega))
  have hlen:(gq tr t0 L k).length=(gq tr t0 L' k).length:=by rw [hQ,hQ]
  unfold gq
  cases hx:tr[k]? with
  |none=>cases L k<;>cases L' k<;>exact ih
  |some x=>
   by_cases hd:x.o.dst=some i
   ·rw [h k x (by omega) hx hd]
    cases L' k
    ·exact ih
    ·simp only [hd,put,List.getElem?_set,hlen,if_true]
   ·cases L k<;>cases L' k<;>simp only []<;>first|exact ih|(rw [js hd];exact ih)|(rw [js hd,js hd];exact ih)
theorem nD {L:Nat→Bool} {i:Nat} (m:Nat):∀k,m≤k→(∀j x,m≤j→j<k→tr[j]? =some x→x.o.dst=some i→L j=false)→(gq tr t0 L k)[i]? =(gq tr t0 L m)[i]?
 |0,hm,_=>by
  have e:m=0:=by omega
  subst e
  rfl
 |k+1,hm,h=>by
  by_cases e:m=k+1
  ·subst e;rfl
  ·have ih:=nD m k (by omega) (fun j x h1 h2=>h j x h1 (by omega))
   conv=>lhs;unfold gq
   cases hx:tr[k]? with
   |none=>cases L k<;>exact ih
   |some x=>
    by_cases hd:x.o.dst=some i
    ·rw [h k x (by omega) (by omega) hx hd];exact ih
    ·cases L k
     ·exact ih
     ·simp only [];rw [js hd];exact ih
theorem jz {L L':Nat→Bool} {id:Nat} :∀k,(∀j x,j<k→tr[j]? =some x→dS x id→L j=L' j)→di tr σ0 L k id=di tr σ0 L' k id
 |0,_=>rfl
 |k+1,h=>by
  have ih:=jz (L:=L) (L':=L') (id:=id) k (fun j x hj=>h j x (by omega))
  unfold di
  cases hx:tr[k]? with
  |none=>cases L k<;>cases L' k<;>exact ih
  |some x=>
   have hk:=h k x (by omega) hx
   unfold dS at hk
   cases he:x.e with
   |none=>cases L k<;>cases L' k<;>simp only [he]<;>exact ih
   |some e=>
    rw [he] at hk
    cases e with
    |pure d=>cases L k<;>cases L' k<;>simp only [he]<;>exact ih
    |read i o d=>cases L k<;>cases L' k<;>simp only [he]<;>exact ih
    |iR i j d=>cases L k<;>cases L' k<;>simp only [he]<;>exact ih
    |gN i o o' d=>
     by_cases e1:id=i
     ·rw [hk e1];cases L' k<;>simp only [he,gN,e1,if_true]<;>(try exact e1▸ih)
     ·cases L k<;>cases L' k<;>simp only [he,gN,e1,if_false]<;>exact ih
    |new o' mk=>
     by_cases e1:id=x.s.length
     ·rw [hk e1];cases L' k<;>simp only [he,gN,e1,if_true]<;>(try exact e1▸ih)
     ·cases L k<;>cases L' k<;>simp only [he,gN,e1,if_false]<;>exact ih
    |all s' d=>
     by_cases e1:id∈x.k
     ·cases L k<;>cases L' k<;>simp only [he,e1,if_true]<;>exact ih
     ·rw [hk e1];cases L' k<;>simp only [he,e1,if_false];exact ih
theorem kl {L:Nat→Bool} {id:Nat} (m:Nat):∀k,m≤k→(∀j x,m≤j→j<k→tr[j]? =some x→dS x id→L j=false)→di tr σ0 L k id=di tr σ0 L m id
 |0,hm,_=>by
  have e:m=0:=by omega
  subst e
  rfl
 |k+1,hm,h=>by
  by_cases e:m=k+1
  ·subst e;rfl
  ·have ih:=kl m k (by omega) (fun j x h1 h2=>h j x h1 (by omega))
   conv=>lhs;unfold di
   cases hx:tr[k]? with
   |none=>cases L k<;>exact ih
   |some x=>
    have hk:=h k x (by omega) (by omega) hx
    unfold dS at hk
    cases hL:L k with
    |false=>exact ih
    |true=>
     rw [hL] at hk
     simp only []
     cases he:x.e with
     |none=>exact ih
     |some e=>
      rw [he] at hk
      cases e with
      |pure d=>exact ih
      |read i o d=>exact ih
      |iR i j d=>exact ih
      |gN i o o' d=>
       by_cases e1:id=i
       ·exact absurd (hk e1) (by simp)
       ·simp only [gN,e1,if_false];exact ih
      |new o' mk=>
       by_cases e1:id=x.s.length
       ·exact absurd (hk e1) (by simp)
       ·simp only [gN,e1,if_false];exact ih
      |all s' d=>
       by_cases e1:id∈x.k
       ·simp only [e1,if_true];exact ih
       ·exact absurd (hk e1) (by simp)
end
theorem sk {P:Program} {ops:Array Oper} :∀ {rest:List Oper} {t:List D} {s:List Ob} {tr:List Tr} {t':List D} {s':List Ob},Trace P ops rest t s tr t' s'→
  (∀(i:Nat) (x:Tr),tr[i]? =some x→gq tr t (fun _=>true) i=x.t∧di tr (ca s) (fun _=>true) i=ca x.s∧s.length≤x.s.length∧x.fB.length≤s'.length∧
   (∀(j:Nat) (y:Tr),j<i→tr[j]? =some y→y.fB.length≤x.s.length)∧(∀id,s.length≤id→id<x.s.length→∃j y,j<i∧tr[j]? =some y∧y.s.length≤id∧id<y.fB.length))∧
  gq tr t (fun _=>true) tr.length=t'∧di tr (ca s) (fun _=>true) tr.length=ca s'
 | [],t,s,tr,t',s',h=>by
  obtain ⟨rfl,rfl,rfl⟩:=h
  exact ⟨fun i x hx=>by simp at hx,rfl,rfl⟩
 |o::rest,t,s,tr,t',s',h=>by
  obtain ⟨x,xs,rfl,rfl,rfl,rfl,RN,h⟩:=h
  obtain ⟨ih,ih1,ih2⟩:=sk h
  have Xc:=tA RN
  have T4:∀k,gq (x::xs) x.t (fun _=>true) (k+1)=gq xs x.CE (fun _=>true) k:=by
   intro k
   induction k with
   |zero=>rfl
   |succ k ihk=>
    conv=>lhs;unfold gq
    conv=>rhs;unfold gq
    simp only [Yw]
    cases xs[k]? with
    |none=>exact ihk
    |some y=>simp only [];rw [ihk]
  have Rd:di (x::xs) (ca x.s) (fun _=>true) 1=ca x.fB:=by
   unfold di di
   simp only [List.getElem?_cons_zero]
   unfold Tr.fB
   cases he:x.e with
   |none=>rfl
   |some e=>
    cases e with
    |pure d=>rfl
    |read i o d=>rfl
    |iR i j d=>rfl
    |gN i ob ob' d=>
     have:i<x.s.length:=by
      replace RN:=RN.1
      unfold Tr.KH at RN
      rw [he] at RN
      split at RN
      ·obtain ⟨e0,h0,h1⟩:=RN;cases h0;exact h1.1.2
      ·obtain ⟨b,_,⟨_,e0,h0,h1⟩|⟨_,h0⟩⟩|⟨_,h0⟩:=RN
       ·cases h0;exact h1.1.2
       ·cases h0
       ·cases h0
     simp only []
     rw [lX this]
    |new ob mk=>simp only [];rw [oU]
    |all s2 d=>
     have hk:=RN.2
     unfold Tr.Oo at hk
     rw [he] at hk
     simp only []
     funext id
     by_cases e1:id∈x.k
     ·rw [if_pos e1];exact (hk.1 id e1).2
     ·rw [if_neg e1]
  have TS:∀k,di (x::xs) (ca x.s) (fun _=>true) (k+1)=di xs (ca x.fB) (fun _=>true) k:=by
   intro k
   induction k with
   |zero=>exact Rd
   |succ k ihk=>
    conv=>lhs;unfold di
    conv=>rhs;unfold di
    simp only [Yw]
    cases xs[k]? with
    |none=>exact ihk
    |some y=>simp only [];rw [ihk]
  refine ⟨fun i y hy=> ?_,by rw [Xx,T4];exact ih1,by rw [Xx,TS];exact ih2⟩
  cases i with
  |zero=>
   simp at hy
   subst hy
   exact ⟨rfl,rfl,XC _,jZ h,fun j y hj=>by omega,fun id h1 h2=>by omega⟩
  |succ i=>
   obtain ⟨a1,a2,a3,a4,a5,a6⟩:=ih i y (by simpa using hy)
   refine ⟨by rw [T4];exact a1,by rw [TS];exact a2,by omega,a4,?_,?_⟩
   ·intro j z hj hz
    cases j with
    |zero=>simp at hz;subst hz;exact a3
    |succ j=>exact a5 j z (by omega) (by simpa using hz)
   ·intro id h1 h2
    rcases XL id x.fB.length with q|q
    ·exact ⟨0,x,by omega,rfl,h1,q⟩
    ·obtain ⟨j,z,b1,b2,b3,b4⟩:=a6 id q h2
     exact ⟨j+1,z,by omega,by simpa using b2,b3,b4⟩
theorem sj {ops:Array Oper} {tr:List Tr} (h:nC ops ((tr.map Tr.fp).reverse++ [])=true):
  tr.length=ops.size∧(∀(j:Nat) (o:Oper),ops[j]? =some o→∀e∈o.after.toList,Region.binds .any e=true→e.on<j)∧
  ∀(i j:Nat) (x y:Tr) (ox oy:Oper),i<j→tr[i]? =some x→tr[j]? =some y→ops[i]? =some ox→ops[j]? =some oy→((iC ops.toList []).getD j 0).testBit i=true∨(share ops ox oy=false∧hZ x.fp y.fp=false):=by
 unfold nC at h
 simp only [List.append_nil,List.reverse_reverse,List.length_map,Yf,Xp,XR,List.all_eq_true,List.mem_range] at h
 obtain ⟨hl,h⟩:=h
 refine ⟨hl,?_,?_⟩
 ·intro j o ho e he hb
  have hj:j<ops.size:=by
   rcases XL j ops.size with q|q
   ·exact q
   ·simp [Ye q] at ho
  have:=(h j hj).1
  rw [XN,ho] at this
  simp only [Array.all_eq_true_iff_forall_mem] at this
  have h1:=this e (by simpa using he)
  rw [hb] at h1
  simp only [Bool.not_true,Bool.false_or] at h1
  exact Nat.lt_of_succ_le (by simpa [Nat.blt,YB] using h1)
 ·intro i j x y ox oy hij hx hy VR W8
  have hj:j<ops.size:=by
   rcases XL j ops.size with q|q
   ·exact q
   ·simp [Ye q] at W8
  have:=(h j hj).2 i hij
  rw [XN,XN,VR,W8] at this
  simp only [Xr,List.getElem?_map,hx,hy,YI,Yp,XM,Xp,X8] at this
  rw [Xr]
  exact this
theorem mM {i:Nat} :∀ {l:List Nat},jG i l=true↔i∈l
 | []=>by simp [jG]
 |a::r=>by
  unfold jG
  split
  ·rename_i h;rw [XR] at h;subst h;simp
  ·rename_i h
   rw [mM]
   have:a≠i:=fun e=>by subst e;simp at h
   simp [Ne.symm this]
theorem yw {i j:Nat} :∀ {l:List (Nat×Nat)},Ar i j l=true↔(i,j)∈l
 | []=>by simp [Ar]
 |(a,b)::r=>by
  unfold Ar
  split
  ·rename_i h1 h2
   rw [XR] at h1 h2
   subst h1 h2
   simp
  ·rename_i h
   rw [yw,Yx]
   refine ⟨.inr,fun q=> ?_⟩
   rcases q with e|q
   ·cases e
    exact (h (Nat.beq_refl i) (Nat.beq_refl j)).elim
   ·exact q
theorem iP {z:Tr} {id:Nat} (h:dS z id):z.fp= .wr id∨z.fp= .nw id∨∃l kc,z.fp= .all l kc∧id∉l:=by
 unfold dS at h
 unfold Tr.fp
 cases he:z.e with
 |none=>rw [he] at h;exact h.elim
 |some e=>
  rw [he] at h
  cases e with
  |pure d=>exact h.elim
  |read i o d=>exact h.elim
  |iR i j d=>exact h.elim
  |gN i o o' d=>subst h;exact .inl rfl
  |new o mk=>subst h;exact .inr (.inl rfl)
  |all s d=>exact .inr (.inr ⟨z.k,z.kc,rfl,h⟩)
theorem CT {z:Tr} {id:Nat} (h1:z.s.length≤id) (h2:id<z.fB.length):z.fp= .nw id∨∃l kc,z.fp= .all l kc:=by
 unfold Tr.fB at h2
 unfold Tr.fp
 cases he:z.e with
 |none=>rw [he] at h2;simp at h2;omega
 |some e=>
  rw [he] at h2
  cases e with
  |pure d=>simp at h2;omega
  |read i o d=>simp at h2;omega
  |iR i j d=>simp at h2;omega
  |gN i o o' d=>simp at h2;omega
  |new o mk=>
   simp at h2
   have e:id=z.s.length:=by omega
   subst e
   exact .inl rfl
  |all s d=>exact .inr ⟨_,_,rfl⟩
section
variable {P:Program} {ops:Array Oper} {t0:List D} {s0:List Ob} {tr:List Tr} {tn:List D} {sn:List Ob} {w0:fg} {M0:MM} {df:List Deferred}
structure LI (df:List Deferred) (P:Program) (ops:Array Oper) (t0:List D) (s0:List Ob) (tr:List Tr) (w0:fg) (M0:MM) (L:Nat→Bool) (M:MM) (own:Nat→Option Nat) (w:World) (a:Act):Prop where
  cl:closed ops L
  rel:cJ w0 M own (di tr (ca s0) L ops.size) w
  xK:cN M (gq tr t0 L ops.size) a.tmps
  defers:a.defers=df
  live:∀id,(M.box id≠none∨∃v,M.cu id v≠none)→id<s0.length∨∃(j:Nat) (y:Tr),L j=true∧tr[j]? =some y∧y.s.length≤id∧id<y.fB.length
  le:M0.Le M
def jT (L:Nat→Bool) (i:Nat):Nat→Bool:=fun j=>if j=i then true else L j
theorem Dr (Tk:Trace P ops ops.toList t0 s0 tr tn sn) (hd:nC ops ((tr.map Tr.fp).reverse++ [])=true) {L:Nat→Bool} {M:MM} {own:Nat→Option Nat} {w:World} {a:Act} (inv:LI df P ops t0 s0 tr w0 M0 L M own w a)
  {i:Nat} {x:Tr} (hx:tr[i]? =some x) (US:L i=false) (hp:Cr ops L i) {Q:Exit→Act→World→Prop} {K:Act→World→Prop}
  (hK:∀M' QK w' a',LI df P ops t0 s0 tr w0 M0 (jT L i) M' QK w' a'→K a' w'):∀rr,wpOpIn (FW rr) 0 P ops Q i K a w:=by
 intro rr
 obtain ⟨hlen,hedge,hpair⟩:=sj hd
 obtain ⟨R9,_,_⟩:=sk Tk
 obtain ⟨UH,RN⟩:=nP Tk i x hx
 have S7:ops[i]? =some x.o:=by rw [← XN];exact UH
 have So:∀ {j:Nat} {y:Tr},tr[j]? =some y→ops[j]? =some y.o:=fun {j y} hy=>by rw [← XN];exact (nP Tk j y hy).1
 have Q4:i<ops.size:=by
  rcases XL i ops.size with q|q
  ·exact q
  ·simp [Ye q] at S7
 obtain ⟨aT,aS,a3,a4,a5,a6⟩:=R9 i x hx
 have before:∀ {j:Nat} {y:Tr},j<i→tr[j]? =some y→(share ops y.o x.o=true∨hZ y.fp x.fp=true)→L j=true:=by
  intro j y hj hy hc
  rcases hpair j i y x _ _ hj hy hx (So hy) S7 with h|⟨h1,h2⟩
  ·exact reach inv.cl i i (XC _) hp j h
  ·rcases hc with hc|hc
   ·rw [h1] at hc;cases hc
   ·rw [h2] at hc;cases hc
 have after:∀ {j:Nat} {y:Tr},i<j→tr[j]? =some y→(share ops x.o y.o=true∨hZ x.fp y.fp=true)→L j=false:=by
  intro j y hj hy hc
  rcases hpair i j x y _ _ hj hx hy S7 (So hy) with h|⟨h1,h2⟩
  ·cases e:L j with
   |false=>rfl
   |true=>
    have:=reach inv.cl j j (XC _) (inv.cl j e) i h
    rw [US] at this;cases this
  ·rcases hc with hc|hc
   ·rw [h1] at hc;cases hc
   ·rw [h2] at hc;cases hc
 have SA:∀ {f g:FP} {id:Nat},(f= .wr id∨f= .nw id∨∃l kc,f= .all l kc∧id∉l)→(g= .rd id∨g= .wr id∨g= .nw id∨∃l kc,g= .all l kc)→hZ f g=true:=by
  intro f g id h1 h2
  rcases h1 with rfl|rfl|⟨l,kc,rfl,hl⟩<;>rcases h2 with rfl|rfl|rfl|⟨l',kc',rfl⟩<;>simp [hZ]
  cases e:jG id l
  ·rfl
  ·exact absurd (mM.1 e) hl
 have SI:∀ {f g:FP} {id:Nat},(f= .rd id∨f= .wr id∨f= .nw id∨∃l kc,f= .all l kc)→(g= .wr id∨g= .nw id∨∃l kc,g= .all l kc∧id∉l)→hZ f g=true:=by
  intro f g id h1 h2
  rcases h1 with rfl|rfl|rfl|⟨l',kc',rfl⟩<;>rcases h2 with rfl|rfl|⟨l,kc,rfl,hl⟩<;>simp [hZ]
  cases e:jG id l
  ·rfl
  ·exact absurd (mM.1 e) hl
 have F1:∀y,y∈rA ops x.o→(gq tr t0 L ops.size)[y]? =x.t[y]? :=by
  intro y hy
  rw [nD tr t0 (L:=L) (i:=y) i ops.size (by omega) (fun j z h1 h2 hz Sw=>by
   rcases Nat.lt_or_eq_of_le h1 with h|h
   ·refine after h hz (.inl ?_)
    unfold share
    rw [Sw]
    simp only [XM]
    right
    simpa using hy
   ·rw [← h];exact US)]
  rw [kI tr t0 (L:=L) (L':=fun _=>true) (i:=y) i (fun j z hj hz Sw=>by
   refine before hj hz (.inl ?_)
   unfold share
   rw [Sw]
   simp only [XM]
   left;left
   simpa using hy),aT]
 have TQ:∀y∈x.o.op.operands,cU (gq tr t0 L ops.size) y=cU x.t y:=by
  intro y hy
  cases y with
  |tmp k=>
   have:k∈rA ops x.o:=by
    unfold rA GO
    refine List.mem_append.2 (.inl (List.mem_filterMap.2 ⟨.tmp k,by simpa using hy,rfl⟩))
   show List.getD _ _ _=List.getD _ _ _
   rw [Xr,Xr,F1 k this]
  |const v=>rfl
  |global g=>rfl
  |func f=>rfl
 have QR:∀y∈x.o.op.operands,cz M (cU x.t y) (a.eval y):=fun y hy=>by rw [← TQ y hy];exact nW inv.xK y
 have F2:∀id,(x.fp= .rd id∨x.fp= .wr id∨x.fp= .nw id∨∃l kc,x.fp= .all l kc)→di tr (ca s0) L ops.size id=ca x.s id:=by
  intro id SF
  rw [kl tr (ca s0) (L:=L) (id:=id) i ops.size (by omega) (fun j z h1 h2 hz ht=>by
   rcases Nat.lt_or_eq_of_le h1 with h|h
   ·exact after h hz (.inr (SI SF (iP ht)))
   ·rw [← h];exact US)]
  rw [jz tr (ca s0) (L:=L) (L':=fun _=>true) (id:=id) i (fun j z hj hz ht=>before hj hz (.inr (SA (iP ht) SF))),aS]
 have order:∀ {id a b:Nat} {y z:Tr},a<b→tr[a]? =some y→tr[b]? =some z→dS y id→dS z id→L b=true→L a=true:=by
  intro id a b y z hab hy hz ty tz hLb
  have hc:hZ y.fp z.fp=true:=SA (iP ty) (by
   rcases iP tz with q|q|⟨l,kc,q,_⟩
   ·exact .inr (.inl q)
   ·exact .inr (.inr (.inl q))
   ·exact .inr (.inr (.inr ⟨l,kc,q⟩)))
  rcases hpair a b y z _ _ hab hy hz (So hy) (So hz) with h|⟨_,h2⟩
  ·exact reach inv.cl b b (XC _) (inv.cl b hLb) a h
  ·rw [h2] at hc;cases hc
 have F3:∀id j,x.fp= .sO id j→gM (di tr (ca s0) L ops.size id) j=gM (ca x.s id) j:=by
  intro id j SF
  obtain ⟨m,hm1,VO⟩:∃m,(∀k y,m≤k→tr[k]? =some y→dS y id→L k=false)∧∀k y,k<m→tr[k]? =some y→dS y id→L k=true:=by
   have key:∀n,(∀k y,n≤k→tr[k]? =some y→dS y id→L k=false)→∃m,(∀k y,m≤k→tr[k]? =some y→dS y id→L k=false)∧∀k y,k<m→tr[k]? =some y→dS y id→L k=true:=by
    intro n
    induction n with
    |zero=>exact fun h=>⟨0,h,fun k y hk=>by omega⟩
    |succ n ih=>
     intro h
     by_cases hn:∃y,tr[n]? =some y∧dS y id∧L n=true
     ·obtain ⟨y,hy,ty,hLn⟩:=hn
      refine ⟨n+1,h,fun k z hk hz tz=> ?_⟩
      rcases Nat.lt_or_eq_of_le (Nat.le_of_lt_succ hk) with q|q
      ·exact order q hz hy tz ty hLn
      ·subst q;exact hLn
     ·refine ih fun k y hk hy ty=> ?_
      rcases Nat.lt_or_eq_of_le hk with q|q
      ·exact h k y q hy ty
      ·subst q
       cases e:L n with
       |false=>rfl
       |true=>exact absurd ⟨y,hy,ty,e⟩ hn
   exact key tr.length fun k y hk hy=>by rw [Xy hk] at hy;cases hy
  have still:∀k y,tr[k]? =some y→((m≤k∧k<i)∨(i≤k∧k<m))→gM (di tr (ca s0) (fun _=>true) (k+1) id) j=gM (di tr (ca s0) (fun _=>true) k id) j:=by
   intro k y hy hk
   by_cases ty:dS y id
   ·have QM:hZ y.fp x.fp=false∧hZ x.fp y.fp=false:=by
     rcases hk with ⟨h1,h2⟩|⟨h1,h2⟩
     ·have hL:=hm1 k y h1 hy ty
      have:hZ y.fp x.fp=false:=by
       cases e:hZ y.fp x.fp with
       |false=>rfl
       |true=>rw [before h2 hy (.inr e)] at hL;cases hL
      refine ⟨this,?_⟩
      rw [SF] at this ⊢
      rcases iP ty with q|q|⟨l,kc,q,_⟩
      ·rw [q,show hZ (.wr id) (.sO id j)=true from Nat.beq_refl id] at this;cases this
      ·rw [q,show hZ (.nw id) (.sO id j)=true from Nat.beq_refl id] at this;cases this
      ·rw [q] at this ⊢;exact this
     ·have hL:=VO k y h2 hy ty
      have RR:i≠k:=fun e=>by subst e;rw [US] at hL;cases hL
      have:hZ x.fp y.fp=false:=by
       cases e:hZ x.fp y.fp with
       |false=>rfl
       |true=>rw [after (by omega) hy (.inr e)] at hL;cases hL
      refine ⟨?_,this⟩
      rw [SF] at this ⊢
      rcases iP ty with q|q|⟨l,kc,q,_⟩
      ·rw [q,show hZ (.sO id j) (.wr id)=true from Nat.beq_refl id] at this;cases this
      ·rw [q,show hZ (.sO id j) (.nw id)=true from Nat.beq_refl id] at this;cases this
      ·rw [q] at this ⊢;exact this
    have hc:=QM.2
    rw [SF] at hc
    rcases iP ty with q|q|⟨l,kc,q,hl⟩
    ·rw [q,show hZ (.sO id j) (.wr id)=true from Nat.beq_refl id] at hc;cases hc
    ·rw [q,show hZ (.sO id j) (.nw id)=true from Nat.beq_refl id] at hc;cases hc
    ·rw [q] at hc
     have SD:(id,j)∈kc:=by
      cases e:Ar id j kc with
      |true=>exact yw.1 e
      |false=>
       have e2:jG id l=false:=by
        cases e3:jG id l with
        |false=>rfl
        |true=>exact absurd (mM.1 e3) hl
       simp [hZ,e,e2] at hc
     obtain ⟨_,hoky⟩:=nP Tk k y hy
     obtain ⟨_,yS,_,_,_,_⟩:=R9 k y hy
     have Uc:=hoky.2
     unfold Tr.fp at q
     unfold Tr.Oo at Uc
     cases he:y.e with
     |none=>rw [he] at q;cases q
     |some e=>
      rw [he] at q Uc
      cases e with
      |all s' d=>
       simp only at q Uc
       cases q
       have VX:=Uc.2 id j SD
       have e1:di tr (ca s0) (fun _=>true) (k+1) id=ca s' id:=by
        conv=>lhs;unfold di
        simp only [hy,he,if_neg hl]
       rw [e1,yS]
       exact VX.symm
      |_=>cases q
   ·have e1:di tr (ca s0) (fun _=>true) (k+1) id=di tr (ca s0) (fun _=>true) k id:=
     kl tr (ca s0) (L:=fun _=>true) (id:=id) k (k+1) (by omega) (fun j' z h1 h2 hz tz=>by
      obtain rfl:j'=k:=by omega
      rw [hy] at hz
      obtain rfl:=Xo hz
      exact absurd tz ty)
    rw [e1]
  have walk:∀n a,(∀k,a≤k→k<a+n→(m≤k∧k<i)∨(i≤k∧k<m))→a+n≤tr.length→gM (di tr (ca s0) (fun _=>true) (a+n) id) j=gM (di tr (ca s0) (fun _=>true) a id) j:=by
   intro n
   induction n with
   |zero=>intro a _ _;rfl
   |succ n ih=>
    intro a h hl
    rw [← Nat.add_assoc,still (a+n) _ (List.getElem?_eq_getElem (by omega)) (h (a+n) (by omega) (by omega))]
    exact ih a (fun k h1 h2=>h k h1 (by omega)) (by omega)
  have WV:i<tr.length:=by
   rcases XL i tr.length with q|q
   ·exact q
   ·rw [Xy q] at hx;cases hx
  have Wb:di tr (ca s0) L ops.size id=di tr (ca s0) (fun _=>true) (min m tr.length) id:=by
   rw [kl tr (ca s0) (L:=L) (id:=id) (min m tr.length) ops.size (by rw [← hlen];exact Nat.min_le_right ..) (fun k y h1 h2 hy ty=>by
    rcases XL k tr.length with q|q
    ·exact hm1 k y (by omega) hy ty
    ·rw [Xy q] at hy;cases hy)]
   exact jz tr (ca s0) (L:=L) (L':=fun _=>true) (id:=id) _ (fun k y hk hy ty=>VO k y (by omega) hy ty)
  rw [Wb,← aS]
  rcases Nat.le_total (min m tr.length) i with q|q
  ·have:=walk (i - min m tr.length) (min m tr.length) (fun k h1 h2=> .inl ⟨by omega,by omega⟩) (by omega)
   rw [show min m tr.length+(i - min m tr.length)=i by omega] at this
   exact this.symm
  ·have:=walk (min m tr.length - i) i (fun k h1 h2=> .inr ⟨by omega,by omega⟩) (by omega)
   rw [show i+(min m tr.length - i)=min m tr.length by omega] at this
   exact this
 have S0:∀ {j:Nat},j≠i→jT L i j=L j:=fun {j} h=>by simp [jT,h]
 have Sn:jT L i i=true:=by simp [jT]
 have RH:closed ops (jT L i):=by
  intro j hj o ho e he hb
  by_cases e1:j=i
  ·subst e1
   by_cases e2:e.on=j
   ·rw [e2];exact Sn
   ·rw [S0 e2];exact hp o ho e he hb
  ·rw [S0 e1] at hj
   by_cases e2:e.on=i
   ·rw [e2];exact Sn
   ·rw [S0 e2];exact inv.cl j hj o ho e he hb
 have R5:∀ {M':MM} {v:Value},M.Le M'→cz M' x.val v→cN M' (gq tr t0 (jT L i) ops.size) (a.put x.o.dst v).tmps:=by
  intro M' v le hv
  have hl:=inv.xK.1
  rw [hQ] at hl
  refine ⟨by rw [hQ];cases x.o.dst<;>simp [Act.put,hl],fun y d u h1 h2=> ?_⟩
  by_cases e:x.o.dst=some y
  ·rw [nD tr t0 (L:=jT L i) (i:=y) (i+1) ops.size (by omega) (fun j z q1 q2 hz Sw=>by
    rw [S0 (by omega)]
    refine after (by omega) hz (.inl ?_)
    unfold share
    rw [e]
    simp only [XM]
    left;right
    simp [Sw])] at h1
   unfold gq at h1
   simp only [Sn,hx,e,put] at h1
   rw [List.getElem?_set] at h1
   simp only [if_true] at h1
   split at h1
   ·obtain rfl:=Xo h1
    simp only [e,Act.put] at h2
    rw [Array.getElem?_setIfInBounds] at h2
    simp only [if_true] at h2
    split at h2
    ·obtain rfl:=Xo h2;exact hv
    ·cases h2
   ·cases h1
  ·rw [kI tr t0 (L:=jT L i) (L':=L) (i:=y) ops.size (fun j z hj hz Sw=>S0 (fun q=>by subst q;rw [hx] at hz;obtain rfl:=Xo hz;exact e Sw))] at h1
   have VD:a.tmps[y]? =some u:=by
    cases Sw:x.o.dst with
    |none=>rw [Sw] at h2;exact h2
    |some k=>
     rw [Sw] at h2
     simp only [Act.put] at h2
     rw [Yi (fun q=>e (by rw [Sw,q]))] at h2
     exact h2
   exact (inv.xK.2 y d u h1 VD).mono le
 have Rv:∀id,¬dS x id→di tr (ca s0) (jT L i) ops.size id=di tr (ca s0) L ops.size id:=fun id h=>
  jz tr (ca s0) ops.size (fun j z hj hz ht=>S0 (fun q=>by subst q;rw [hx] at hz;obtain rfl:=Xo hz;exact h ht))
 have Rt:∀id,dS x id→di tr (ca s0) (jT L i) ops.size id=di tr (ca s0) (jT L i) (i+1) id:=fun id h=>
  kl tr (ca s0) (i+1) ops.size (by omega) (fun j z q1 q2 hz ht=>by
   rw [S0 (by omega)]
   refine after (by omega) hz (.inr (SI ?_ (iP ht)))
   rcases iP h with q|q|⟨l,kc,q,_⟩
   ·exact .inr (.inl q)
   ·exact .inr (.inr (.inl q))
   ·exact .inr (.inr (.inr ⟨l,kc,q⟩)))
 have RV:∀id,(M.box id≠none∨∃v,M.cu id v≠none)→id<s0.length∨∃(j:Nat) (y:Tr),jT L i j=true∧tr[j]? =some y∧y.s.length≤id∧id<y.fB.length:=by
  intro id h
  rcases inv.live id h with q|⟨j,y,q1,q2,q3,q4⟩
  ·exact .inl q
  ·exact .inr ⟨j,y,by by_cases e:j=i<;>simp [jT,e,q1],q2,q3,q4⟩
 have Tp:∀id,(x.fp= .wr id∨∃l kc,x.fp= .all l kc)→id<x.s.length→id<s0.length∨∃(j:Nat) (y:Tr),jT L i j=true∧tr[j]? =some y∧y.s.length≤id∧id<y.fB.length:=by
  intro id SF RU
  rcases XL id s0.length with q|q
  ·exact .inl q
  ·obtain ⟨j,y,b1,b2,b3,b4⟩:=a6 id q RU
   refine .inr ⟨j,y,?_,b2,b3,b4⟩
   rw [S0 (by omega)]
   refine before b1 b2 (.inr ?_)
   rcases CT b3 b4 with h|⟨l,kc,h⟩
   ·refine SA (id:=id) (.inr (.inl h)) ?_
    rcases SF with h|h
    ·exact .inr (.inl h)
    ·exact .inr (.inr (.inr h))
   ·rcases SF with h2|⟨l2,kc2,h2⟩<;>rw [h,h2]<;>rfl
 have Uw:∀ {e0:jI},x.e=some e0→jM P x.o (cU x.t) x.s e0→J0 P x.o a w K Q:=by
  intro e0 he h0
  have Rb:x.val=e0.val x.s.length:=by unfold Tr.val;rw [he]
  cases e0 with
  |pure d=>
   have UO:∀id,¬dS x id:=fun id h=>by unfold dS at h;rw [he] at h;exact h
   refine h0 w0 M own _ w a x.s.length inv.rel QR trivial K Q fun v M' QK w' le ad R4 hr=>hK M' QK w' _ ⟨RH,?_,R5 le (by rw [Rb];exact hr),by rw [eu];exact inv.defers,?_,inv.le.trans le⟩
   ·rw [show di tr (ca s0) (jT L i) ops.size=di tr (ca s0) L ops.size from funext fun id=>Rv id (UO id)];exact R4
   ·intro id h;rw [ad.1,ad.2] at h;exact RV id h
  |read k ob d=>
   have UO:∀id,¬dS x id:=fun id h=>by unfold dS at h;rw [he] at h;exact h
   have SF:x.fp= .rd k:=by unfold Tr.fp;rw [he]
   refine h0.2 w0 M own _ w a x.s.length inv.rel QR (by show di _ _ _ _ k=ob;rw [F2 k (.inl SF)];exact h0.1.1) K Q fun v M' QK w' le ad R4 hr=>hK M' QK w' _ ⟨RH,?_,R5 le (by rw [Rb];exact hr),by rw [eu];exact inv.defers,?_,inv.le.trans le⟩
   ·rw [show di tr (ca s0) (jT L i) ops.size=di tr (ca s0) L ops.size from funext fun id=>Rv id (UO id)];exact R4
   ·intro id h;rw [ad.1,ad.2] at h;exact RV id h
  |iR k jc d=>
   have UO:∀id,¬dS x id:=fun id h=>by unfold dS at h;rw [he] at h;exact h
   have SF:x.fp= .sO k jc:=by unfold Tr.fp;rw [he]
   refine h0.2 w0 M own _ w a x.s.length inv.rel QR (by show gM (di _ _ _ _ k) jc=some d;rw [F3 k jc SF];exact h0.1.1) K Q fun v M' QK w' le ad R4 hr=>hK M' QK w' _ ⟨RH,?_,R5 le (by rw [Rb];exact hr),by rw [eu];exact inv.defers,?_,inv.le.trans le⟩
   ·rw [show di tr (ca s0) (jT L i) ops.size=di tr (ca s0) L ops.size from funext fun id=>Rv id (UO id)];exact R4
   ·intro id h;rw [ad.1,ad.2] at h;exact RV id h
  |gN k ob ob' d=>
   have SF:x.fp= .wr k:=by unfold Tr.fp;rw [he]
   have Wu:dS x k:=by unfold dS;rw [he]
   refine h0.2 w0 M own _ w a x.s.length inv.rel QR (by show di _ _ _ _ k=ob;rw [F2 k (.inr (.inl SF))];exact h0.1.1) K Q fun v M' QK w' le ad R4 hr=>hK M' QK w' _ ⟨RH,?_,R5 le (by rw [Rb];exact hr),by rw [eu];exact inv.defers,?_,inv.le.trans le⟩
   ·rw [show di tr (ca s0) (jT L i) ops.size=jI.post (.gN k ob ob' d) (di tr (ca s0) L ops.size) x.s.length from funext fun id=>by
     by_cases e:id=k
     ·subst e
      rw [Rt id Wu]
      unfold di
      simp only [Sn,hx,he,jI.post,bS]
     ·rw [Rv id (fun h=>by unfold dS at h;rw [he] at h;exact e h)]
      simp only [jI.post,bN e]]
    exact R4
   ·intro id h
    by_cases e:id=k
    ·subst e;exact Tp id (.inl SF) h0.1.2
    ·rw [ad.1,ad.2 id e] at h;exact RV id h
  |new ob mk=>
   have Wu:dS x x.s.length:=by unfold dS;rw [he]
   have Ur:x.fB.length=x.s.length+1:=by unfold Tr.fB;rw [he];simp
   have SM:¬(M.box x.s.length≠none∨∃v,M.cu x.s.length v≠none):=by
    intro h
    rcases inv.live _ h with q|⟨j,y,q1,q2,q3,q4⟩
    ·omega
    ·rcases Nat.lt_trichotomy j i with c|c|c
     ·have:=a5 j y c q2;omega
     ·subst c;rw [US] at q1;cases q1
     ·have:=(R9 j y q2).2.2.2.2.1 i x c hx;omega
   have U4:M.box x.s.length=none:=by
    cases e:M.box x.s.length with
    |none=>rfl
    |some b=>exact absurd (.inl (by rw [e];simp)) SM
   have Ut:∀v,M.cu x.s.length v=none:=fun v=>by
    cases e:M.cu x.s.length v with
    |none=>rfl
    |some b=>exact absurd (.inr ⟨v,by rw [e];simp⟩) SM
   refine h0 w0 M own _ w a x.s.length inv.rel QR ⟨U4,Ut⟩ K Q fun v M' QK w' le ad R4 hr=>hK M' QK w' _ ⟨RH,?_,R5 le (by rw [Rb];exact hr),by rw [eu];exact inv.defers,?_,inv.le.trans le⟩
   ·rw [show di tr (ca s0) (jT L i) ops.size=jI.post (.new ob mk) (di tr (ca s0) L ops.size) x.s.length from funext fun id=>by
     by_cases e:id=x.s.length
     ·subst e
      rw [Rt _ Wu]
      unfold di
      simp only [Sn,hx,he,jI.post,bS]
     ·rw [Rv id (fun h=>by unfold dS at h;rw [he] at h;exact e h)]
      simp only [jI.post,bN e]]
    exact R4
   ·intro id h
    by_cases e:id=x.s.length
    ·exact .inr ⟨i,x,Sn,hx,by omega,by omega⟩
    ·rw [ad.1 id e,ad.2 id e] at h;exact RV id h
  |all s' d=>
   have SF:x.fp= .all x.k x.kc:=by unfold Tr.fp;rw [he]
   have hta:∀id,id∉x.k→dS x id:=fun id hk=>by unfold dS;rw [he];exact hk
   have T6:∀id∈x.k,id<x.s.length∧x.s.getD id .dead=s'.getD id .dead:=by have:=RN.2;unfold Tr.Oo at this;rw [he] at this;exact this.1
   have Ur:x.fB=s':=by unfold Tr.fB;rw [he]
   have Wj:cJ w0 M own (ca x.s) w:=by
    rw [← show di tr (ca s0) L ops.size=ca x.s from funext fun id=>F2 id (.inr (.inr (.inr ⟨_,_,SF⟩)))];exact inv.rel
   have RT:∀id,x.s.length≤id→¬(M.box id≠none∨∃v,M.cu id v≠none):=by
    intro id RU h
    rcases inv.live _ h with q|⟨j,y,q1,q2,q3,q4⟩
    ·omega
    ·have hy:y.fp= .nw id∨∃l kc,y.fp= .all l kc:=CT q3 q4
     rcases Nat.lt_trichotomy j i with c|c|c
     ·have:=a5 j y c q2;omega
     ·subst c;rw [US] at q1;cases q1
     ·have:=after c q2 (.inr (by rw [SF];rcases hy with h|⟨l,kc,h⟩<;>rw [h]<;>rfl))
      rw [q1] at this;cases this
   have SY:M.upto x.s.length:=by
    refine ⟨fun id RU=> ?_,fun id v RU=> ?_⟩
    ·cases e:M.box id with
     |none=>rfl
     |some b=>exact absurd (.inl (by rw [e];simp)) (RT id RU)
    ·cases e:M.cu id v with
     |none=>rfl
     |some b=>exact absurd (.inr ⟨v,by rw [e];simp⟩) (RT id RU)
   refine h0.2 w0 M own w a Wj SY QR K Q fun v M' QK w' le up R4 hr=>hK M' QK w' _ ⟨RH,?_,R5 le (by rw [Rb];exact hr),by rw [eu];exact inv.defers,?_,inv.le.trans le⟩
   ·rw [show di tr (ca s0) (jT L i) ops.size=ca s' from funext fun id=>by
     by_cases e1:id∈x.k
     ·rw [Rv id (fun h=>by unfold dS at h;rw [he] at h;exact h e1),F2 id (.inr (.inr (.inr ⟨_,_,SF⟩)))]
      exact (T6 id e1).2
     ·rw [Rt id (hta id e1)]
      unfold di
      simp only [Sn,hx,he,if_neg e1]]
    exact R4
   ·intro id h
    have QQ:id<s'.length:=by
     rcases XL id s'.length with q|q
     ·exact q
     ·rcases h with h|⟨v,h⟩
      ·exact absurd (up.1 id q) h
      ·exact absurd (up.2 id v q) h
    rcases XL id x.s.length with q|q
    ·exact Tp id (.inr ⟨_,_,SF⟩) q
    ·exact .inr ⟨i,x,Sn,hx,q,by rw [Ur];exact QQ⟩
 unfold wpOpIn
 rw [S7]
 simp only []
 replace RN:=RN.1
 unfold Tr.KH at RN
 split at RN
 ·rename_i hg
  obtain ⟨e0,he,h0⟩:=RN
  have:Ys x.o (yielded ops a.tmps)=true:=by simp [Ys,hg]
  rw [if_pos this]
  exact Uw he h0 rr
 ·rename_i j want hg
  have Tu:∀k,(ops[j]?).bind (·.dst)=some k→cz M (x.t.getD k .undef) (a.tmps.getD k undef):=by
   intro k hk
   have:k∈rA ops x.o:=by
    unfold rA
    refine List.mem_append.2 (.inr ?_)
    rw [hg]
    cases hq:ops[j]? with
    |none=>rw [hq] at hk;cases hk
    |some q=>
     rw [hq] at hk
     simp only [YK] at hk
     simp only [hq,hk]
     simp
   have h1:=jV inv.xK k
   rw [Xr,F1 k this,← Xr] at h1
   exact h1
  have skip:x.e=none→Ys x.o (yielded ops a.tmps)=false→(if Ys x.o (yielded ops a.tmps) then x.o.wpIn (FW rr) 0 P a w K Q else (∀f,x.o.about P w a.eval=some f→(FW rr).fn f)∧K (a.put x.o.dst undef) w):=by
   intro he this
   rw [this]
   refine ⟨fun _ _=>trivial,?_⟩
   have UO:∀id,¬dS x id:=fun id h=>by unfold dS at h;rw [he] at h;exact h
   have Rb:x.val= .aQ []:=by unfold Tr.val;rw [he]
   refine hK M own w _ ⟨RH,?_,R5 (.refl M) (by rw [Rb];exact qU),by rw [eu];exact inv.defers,RV,inv.le⟩
   rw [show di tr (ca s0) (jT L i) ops.size=di tr (ca s0) L ops.size from funext fun id=>Rv id (UO id)]
   exact inv.rel
  rcases RN with ⟨b,hb,Ry⟩|⟨hb,he⟩
  ·have hy:yielded ops a.tmps j=some b:=tM (M:=M) (t:=x.t) Tu hb
   rcases Ry with ⟨rfl,e0,he,h0⟩|⟨RR,he⟩
   ·have:Ys x.o (yielded ops a.tmps)=true:=by simp [Ys,hg,hy]
    rw [if_pos this]
    exact Uw he h0 rr
   ·exact skip he (by simp [Ys,hg,hy,RR])
  ·have hy:yielded ops a.tmps j=none:=pJ (M:=M) (t:=x.t) Tu hb
   exact skip he (by simp [Ys,hg,hy])
theorem oX {QN:Array Bool} (hl:QN.size=ops.size) (i:Nat):i∈Region.ready .any ops QN↔i<ops.size∧QN.getD i false=false∧Cr ops (fun j=>QN.getD j false) i:=by
 unfold Region.ready
 rw [List.mem_filter,List.mem_range]
 constructor
 ·rintro ⟨h1,h2⟩
  have ho:ops[i]? =some ops[i]:=by simp [h1]
  rw [ho] at h2
  simp only [YI,Yp,Xp,X8,Array.all_eq_true_iff_forall_mem] at h2
  refine ⟨h1,?_,?_⟩
  ·have:=h2.1
   rw [XV] at this ⊢
   cases e:QN[i]? with
   |none=>rfl
   |some b=>rw [e] at this;exact this
  ·intro o Vg e he hb
   rw [ho] at Vg
   obtain rfl:=Xo Vg
   have:=h2.2 e (by simpa using he)
   rw [hb] at this
   simpa using this
 ·rintro ⟨h1,h2,h3⟩
  refine ⟨h1,?_⟩
  have ho:ops[i]? =some ops[i]:=by simp [h1]
  rw [ho]
  simp only [YI,Yp,Xp,X8,Array.all_eq_true_iff_forall_mem]
  refine ⟨?_,fun e he=> ?_⟩
  ·rw [XV] at h2 ⊢
   have:QN[i]? =some QN[i]:=by simp [hl,h1]
   rw [this] at h2 ⊢
   exact h2
  ·cases hb:Region.binds .any e with
   |false=>rfl
   |true=>
    have:=h3 _ ho e (by simpa using he) hb
    simpa using this
theorem Jk (Tk:Trace P ops ops.toList t0 s0 tr tn sn) (hd:nC ops ((tr.map Tr.fp).reverse++ [])=true) {Q:Exit→Act→World→Prop}
  (hq:∀M' QK w' a',M0.Le M'→M'.upto sn.length→cJ w0 M' QK (ca sn) w'→cN M' tn a'.tmps→a'.defers=df→Q .normal a' w') (rr:Option Nat):
  ∀(fuel:Nat) (QN:Array Bool) (M:MM) (own:Nat→Option Nat) (w:World) (a:Act),QN.size=ops.size→QN.toList.count false≤fuel→LI df P ops t0 s0 tr w0 M0 (fun j=>QN.getD j false) M own w a→wpAnyIn (FW rr) 0 P .any ops Q fuel QN a w:=by
 obtain ⟨hlen,hedge,_⟩:=sj hd
 obtain ⟨R9,hT,hS⟩:=sk Tk
 have fin:∀ {QN:Array Bool} {M:MM} {own:Nat→Option Nat} {w:World} {a:Act},(∀j,j<ops.size→QN.getD j false=true)→LI df P ops t0 s0 tr w0 M0 (fun j=>QN.getD j false) M own w a→Q .normal a w:=by
  intro QN M own w a SU inv
  have e1:gq tr t0 (fun j=>QN.getD j false) ops.size=tn:=by
   rw [← hT,hlen]
   apply List.ext_getElem?
   intro k
   exact kI tr t0 ops.size (fun j x hj _ _=>SU j hj)
  have e2:di tr (ca s0) (fun j=>QN.getD j false) ops.size=ca sn:=by
   rw [← hS,hlen]
   funext id
   exact jz tr (ca s0) ops.size (fun j x hj _ _=>SU j hj)
  have RT:∀id,sn.length≤id→¬(M.box id≠none∨∃v,M.cu id v≠none):=by
   intro id RU h
   rcases inv.live _ h with q|⟨j,y,q1,q2,q3,q4⟩
   ·have:=jZ Tk;omega
   ·have:=(R9 j y q2).2.2.2.1;omega
  refine hq M own w a inv.le ⟨fun id RU=> ?_,fun id v RU=> ?_⟩ (e2▸inv.rel) (e1▸inv.xK) inv.defers
  ·cases e:M.box id with
   |none=>rfl
   |some b=>exact absurd (.inl (by rw [e];simp)) (RT id RU)
  ·cases e:M.cu id v with
   |none=>rfl
   |some b=>exact absurd (.inr ⟨v,by rw [e];simp⟩) (RT id RU)
 have nothing:∀ {QN:Array Bool},QN.size=ops.size→Region.ready .any ops QN= []→∀j,j<ops.size→QN.getD j false=true:=by
  intro QN hl hr j
  induction j using Nat.strongRecOn with
  |_ j ih=>
   intro hj
   cases e:QN.getD j false with
   |true=>rfl
   |false=>
    have:j∈Region.ready .any ops QN:=(oX hl j).2 ⟨hj,e,fun o ho ed he hb=>ih ed.on (hedge j o ho ed he hb) (by have:=hedge j o ho ed he hb;omega)⟩
    rw [hr] at this
    cases this
 intro fuel
 induction fuel with
 |zero=>
  intro QN M own w a hl hc inv
  have SU:∀j,j<ops.size→QN.getD j false=true:=by
   intro j hj
   have h0:QN.toList.count false=0:=by omega
   rw [List.count_eq_zero] at h0
   have V2:j<QN.size:=by omega
   rw [XV]
   have:QN[j]? =some QN[j]:=by simp [V2]
   rw [this]
   cases e:QN[j] with
   |true=>simp
   |false=>exact absurd (by rw [← e];simp) h0
  refine ⟨?_,fin SU inv⟩
  apply List.eq_nil_iff_forall_not_mem.2
  intro i hi
  have:=(oX hl i).1 hi
  rw [SU i this.1] at this
  exact absurd this.2.1 (by simp)
 |succ fuel ih=>
  intro QN M own w a hl hc inv
  refine ⟨fun hr=>fin (nothing hl hr) inv,fun i hi=> ?_⟩
  obtain ⟨h1,h2,h3⟩:=(oX hl i).1 hi
  have hx:tr[i]? =some (tr[i]'(by omega)):=by simp [show i<tr.length by omega]
  refine Dr Tk hd inv hx h2 h3 (fun M' QK w' a' WK=>ih _ M' QK w' a' (by simp [hl]) ?_ ?_) rr
  ·have QQ:i<QN.toList.length:=by simp [hl,h1]
   have Se:QN.toList[i]=false:=by
    rw [XV] at h2
    have:QN[i]? =some QN[i]:=by simp [hl,h1]
    rw [this] at h2
    simpa using h2
   have TV:(QN.setIfInBounds i true).toList=QN.toList.set i true:=by simp
   rw [TV,List.count_set QQ]
   have RF:0<QN.toList.count false:=List.count_pos_iff.2 (by rw [← Se];simp)
   rw [Se]
   rw [show (if (false==false)=true then 1 else 0)=1 from rfl,show (if (true==false)=true then 1 else 0)=0 from rfl]
   omega
  ·have:(fun j=>(QN.setIfInBounds i true).getD j false)=jT (fun j=>QN.getD j false) i:=by
    funext j
    unfold jT
    simp only [XV]
    by_cases e:j=i
    ·subst e;simp [hl,h1]
    ·rw [Yi (Ne.symm e),if_neg e]
   rw [this]
   exact WK
theorem x6 (Tk:Trace P ops ops.toList t0 s0 tr tn sn) (hd:nC ops ((tr.map Tr.fp).reverse++ [])=true) (hm:P.follows .mixedOrders=true) {M:MM} {own:Nat→Option Nat} {w:World} {a:Act} (id:Nat)
  (hw:cJ w0 M own (ca s0) w) (hu:M.upto s0.length) (ht:cN M t0 a.tmps) (Wo:a.defers=df) {Q:Exit→Act→World→Prop} (rr:Option Nat)
  (hq:∀M' QK w' a',M.Le M'→M'.upto sn.length→cJ w0 M' QK (ca sn) w'→cN M' tn a'.tmps→a'.defers=df→Q .normal a' w'):(Code.region id ops true).wpIn (FW rr) 0 P Q a w:=by
 refine wpIn_region_any hm (Jk (w0:=w0) (M0:=M) Tk hd hq rr ops.size _ M own _ a (by simp) ?_ ?_)
 ·rw [Array.toList_replicate];simp
 ·have hL:∀j,(Array.replicate ops.size false).getD j false=false:=fun j=>by
   rw [XV,Array.getElem?_replicate]
   split<;>rfl
  have eT:∀k,gq tr t0 (fun j=>(Array.replicate ops.size false).getD j false) k=t0:=by
   intro k
   induction k with
   |zero=>rfl
   |succ k ih=>unfold gq;simp only [hL k];exact ih
  have eS:∀k,di tr (ca s0) (fun j=>(Array.replicate ops.size false).getD j false) k=ca s0:=by
   intro k
   induction k with
   |zero=>rfl
   |succ k ih=>unfold di;simp only [hL k];exact ih
  refine ⟨fun j hj=> ?_,?_,?_,Wo,?_,.refl M⟩
  ·rw [hL j] at hj;cases hj
  ·rw [eS];exact hw.drew
  ·rw [eT];exact ht
  ·intro id h
   left
   rcases XL id s0.length with q|q
   ·exact q
   ·rcases h with h|⟨v,h⟩
    ·exact absurd (hu.1 id q) h
    ·exact absurd (hu.2 id v q) h
end
end Go.Ev
