import Derived.Test.YtbfpahigdpigpaaGreatC02
open Option.some renaming inj→SE
open Bool renaming and_eq_true→SG,or_eq_true→Tz,not_eq_true'→TE
open List renaming getD_eq_getElem?_getD→SK,getElem?_eq_none→SN,length_append→SS,length_cons→SX,length_nil→S3,getElem?_cons_succ→TH,mem_cons→TJ,getElem?_set_ne→TP,getElem?_take→T1
open Nat renaming le_refl→SP,lt_or_ge→SY,beq_eq→S8,zero_add→Ti,ble_eq→TF
open Array renaming getElem?_toList→S4,getD_eq_getD_getElem? →Tc,getElem?_eq_none→Tk,length_toList→Tl,getElem?_setIfInBounds_ne→Tu
open Option renaming getD_some→Ty,map_some→TY,bind_some→T4
open Go.Region renaming wanted→TC
/- Contracts and plain laws that a statement's proof leans on (texts merged:EvN). -/
set_option linter.unusedVariables false
set_option linter.unusedSimpArgs false
namespace Go.Ev
open Go Go.RowKit
section
variable {ρ':Type}
mutual
theorem force_eq:∀(d:D) (K:D→Option ρ'),force d K=K d
  | .undef,K=>by simp [force]
  | .int _ _,K=>by simp [force]
  | .bool _,K=>by simp [force]
  | .str _,K=>by simp [force]
  | .eL,K=>by simp [force]
  | .ptr _ _ _,K=>by simp [force]
  | .dG _ _ _,K=>by simp [force]
  | .cB _,K=>by simp [force]
  | .hE _,K=>by simp [force]
  | .cS _ _ _,K=>by simp [force]
  | .sub _ _ _ _ _,K=>by simp [force]
  | .aj _ _ _,K=>by simp [force]
  | .aq,K=>by simp [force]
  | .fn f a b,K=>by rw [force,fu,fu]
  | .agg cs,K=>by rw [force,fu]
  | .aC cs,K=>by rw [force,fu]
theorem fu:∀(l:List D) (K:List D→Option ρ'),gX l K=K l
  | [],K=>by simp [gX]
  |d::r,K=>by rw [gX,force_eq,fu]
end
theorem Ag:∀(l:List D) (i:Nat) (d:D) (K:List D→Option ρ'),Br l i d K=K (l.set i d)
 | [],i,d,K=>by simp [Br]
 |a::r,0,d,K=>by simp [Br]
 |a::r,i+1,d,K=>by rw [Br,Ag];rfl
theorem jq (t:List D) (dst:Option Nat) (d:D) (K:List D→Option ρ'):mh t dst d K=K (put t dst d):=by
 cases dst with
 |none=>rfl
 |some i=>simp only [mh,force_eq,Ag,put]
theorem gN:∀(l:List Ob) (i:Nat) (d:Ob) (K:List Ob→Option ρ'),jo l i d K=K (l.set i d)
 | [],i,d,K=>by simp [jo]
 |a::r,0,d,K=>by simp [jo]
 |a::r,i+1,d,K=>by rw [jo,gN];rfl
theorem qZ:∀(es:List (List D×D)) (K:List (List D×D)→Option ρ'),pK es K=K es
 | [],_=>rfl
 |(n,d)::r,K=>by simp [pK,fu,force_eq,qZ r]
theorem yO (o:Ob) (K:Ob→Option ρ'):vh o K=K o:=by cases o<;>simp [vh,fu,qZ]
theorem qY {ρ':Type} {P:Program} {r:ρ'} {z:Z P} {o:Ob} {k:Z P→Ob→Option ρ'} (h:ov z o k=some r):∃z',k z' o=some r∧(z'.c→z.c):=by
 unfold ov at h
 split at h
 ·exact ⟨_,h,id⟩
 ·rw [yO] at h
  exact ⟨_,h,id⟩
theorem oa:∀(l:List Ob) (o:Ob) (K:List Ob→Option ρ'),mB l o K=K (l++ [o])
 | [],o,K=>by simp [mB]
 |a::r,o,K=>by rw [mB,oa];rfl
end
structure Tr where
  o:Oper
  t:List D
  s:List Ob
  e:Option iM
  k:List Nat
  kc:List (Nat×Nat)
def Tr.val (x:Tr):D:=match x.e with|none=> .aC []|some e=>e.val x.s.length
def Tr.Ay (x:Tr):List D:=put x.t x.o.dst x.val
def Tr.ee (x:Tr):List Ob:=match x.e with
  |some (.dW i _ o' _)=>x.s.set i o'
  |some (.new o' _)=>x.s++ [o']
  |some (.all s' _)=>s'
  |_=>x.s
def Tr.fp (x:Tr):FP:=match x.e with
  |some (.read i _ _)=> .rd i
  |some (.gQ i j _)=> .se i j
  |some (.dW i _ _ _)=> .wr i
  |some (.new _ _)=> .nw x.s.length
  |some (.all _ _)=> .all x.k x.kc
  |_=> .Ip
def Tr.JP (x:Tr):Prop:=match x.e with
  |some (.all s' _)=>(∀i∈x.k,i<x.s.length∧x.s.getD i .dead=s'.getD i .dead)∧∀i j,(i,j)∈x.kc→fC (x.s.getD i .dead) j=fC (s'.getD i .dead) j
  |_=>True
def Tr.GH (P:Program) (ops:Array Oper) (x:Tr):Prop:=
  match x.o.guard with
  |none=> ∃e,x.e=some e∧iL P x.o (bR x.t) x.s e
  |some (j,want)=>(∃b,jf ops x.t j= .bool b∧((b=want∧∃e,x.e=some e∧iL P x.o (bR x.t) x.s e)∨(b≠want∧x.e=none)))∨(jf ops x.t j= .aC []∧x.e=none)
def Tr.ok (P:Program) (ops:Array Oper) (x:Tr):Prop:=x.GH P ops∧x.JP
theorem oo {s s':List Ob} :∀(l:List (Nat×Ob)) {c:Prop},qN s.length l=true→AN s s' l c→c∧∀i∈lV l,i<s.length∧s.getD i .dead=s'.getD i .dead
 | [],c,_,h=>⟨h,fun i hi=>by simp [lV] at hi⟩
 |(i,o)::r,c,hl,h=>by
  simp only [qN] at hl
  split at hl
  ·rename_i LN
   obtain ⟨⟨⟨h1,h2⟩,h3⟩,h4⟩:=oo r hl h
   refine ⟨h3,fun j hj=> ?_⟩
   rw [lV,TJ] at hj
   rcases hj with rfl|hj
   ·exact ⟨Nat.lt_of_succ_le (by simpa [Nat.blt,TF] using LN),h1.symm.trans h2⟩
   ·exact h4 j hj
  ·cases hl
theorem tw {s s':List Ob} :∀(l:List (Nat×Nat×D)) {c:Prop},FJ s s' l c→c∧∀i j,(i,j)∈nF l→fC (s.getD i .dead) j=fC (s'.getD i .dead) j
 | [],c,h=>⟨h,fun i j hi=>by simp [nF] at hi⟩
 |(i,j,d)::r,c,h=>by
  obtain ⟨⟨⟨h1,h2⟩,h3⟩,h4⟩:=tw r h
  refine ⟨h3,fun a b hj=> ?_⟩
  rw [nF,TJ] at hj
  rcases hj with e|hj
  ·cases e;exact h1.symm.trans h2
  ·exact h4 a b hj
theorem CJ {ρ':Type} {P:Program} {r:ρ'} {z:Z P} {s s':List Ob} {k:Z P→List Nat→List (Nat×Nat)→Option ρ'} (h:AL z s s' k=some r):∃z' l kc,k z' l kc=some r∧(z'.c→z.c∧(∀i∈l,i<s.length∧s.getD i .dead=s'.getD i .dead)∧∀i j,(i,j)∈kc→fC (s.getD i .dead) j=fC (s'.getD i .dead) j):=by
 unfold AL at h
 split at h
 ·rename_i l rest hz
  obtain ⟨hl,h⟩:=bg h
  refine ⟨_,_,_,h,fun hc=> ?_⟩
  obtain ⟨h1,h2⟩:=oo l hl hc
  exact ⟨h1,h2,fun i j hi=>by simp at hi⟩
 ·rename_i cs l rest hz
  obtain ⟨hl,h⟩:=bg h
  refine ⟨_,_,_,h,fun hc=> ?_⟩
  obtain ⟨h0,h3⟩:=tw cs hc
  obtain ⟨h1,h2⟩:=oo l hl h0
  exact ⟨h1,h2,h3⟩
 ·exact ⟨z,[],[],h,fun c=>⟨c,fun i hi=>by simp at hi,fun i j hi=>by simp at hi⟩⟩
def Trace (P:Program) (ops:Array Oper):List Oper→List D→List Ob→List Tr→List D→List Ob→Prop
  | [],t,s,tr,t',s'=>tr= []∧t'=t∧s'=s
  |o::rest,t,s,tr,t',s'=> ∃x xs,tr=x::xs∧x.o=o∧x.t=t∧x.s=s∧x.ok P ops∧Trace P ops rest x.Ay x.ee xs t' s'
theorem ff {ρ':Type} {P:Program} {r:ρ'} {inl:A3 P ρ'} (Mn:jY P inl) {ops:Array Oper} :∀ {rest:List Oper} {t:List D} {s:List Ob} {NA:List FP} {z:Z P} {K:List D→List Ob→List FP→Z P→Option ρ'},k8 P inl ops rest t s NA z K=some r→
  ∃tr t' s' z',K t' s' ((tr.map Tr.fp).reverse++NA) z'=some r∧(z'.c→z.c∧Trace P ops rest t s tr t' s')
 | [],t,s,NA,z,K,h=>⟨[],t,s,z,h,fun c=>⟨c,rfl,rfl,rfl⟩⟩
 |o::rest,t,s,NA,z,K,h=>by
  have run:∀ {z:Z P} {want:Prop},(Ka P inl o t s z fun z e=>match e with
    | .pure d=>mh t o.dst d fun t'=>k8 P inl ops rest t' s (.Ip::NA) z K
    | .read id _ d=>mh t o.dst d fun t'=>k8 P inl ops rest t' s (.rd id::NA) z K
    | .gQ id j d=>mh t o.dst d fun t'=>k8 P inl ops rest t' s (.se id j::NA) z K
    | .dW id _ o' d=>mh t o.dst d fun t'=>ov z o' fun z o2=>jo s id o2 fun s'=>k8 P inl ops rest t' s' (.wr id::NA) z K
    | .new o' mk=>mh t o.dst (mk s.length) fun t'=>ov z o' fun z o2=>mB s o2 fun s'=>k8 P inl ops rest t' s' (.nw s.length::NA) z K
    | .all s' d=>mh t o.dst d fun t'=>AL z s s' fun z l kc=>k8 P inl ops rest t' s' (.all l kc::NA) z K)=some r→
    ∃e l kc tr t' s' z',K t' s' ((tr.map Tr.fp).reverse++((⟨o,t,s,some e,l,kc⟩:Tr).fp::NA)) z'=some r∧(z'.c→z.c∧iL P o (bR t) s e∧(⟨o,t,s,some e,l,kc⟩:Tr).JP∧Trace P ops rest (⟨o,t,s,some e,l,kc⟩:Tr).Ay (⟨o,t,s,some e,l,kc⟩:Tr).ee tr t' s'):=by
   intro z want h
   obtain ⟨e,z1,h1,h2⟩:=GF Mn h
   cases e with
   |pure d=>
    simp only [jq] at h1
    obtain ⟨tr,t',s',z',k1,k2⟩:=ff Mn h1
    exact ⟨.pure d,[],[],tr,t',s',z',k1,fun c=>⟨(h2 (k2 c).1).1,(h2 (k2 c).1).2,trivial,(k2 c).2⟩⟩
   |read i ob d=>
    simp only [jq] at h1
    obtain ⟨tr,t',s',z',k1,k2⟩:=ff Mn h1
    exact ⟨.read i ob d,[],[],tr,t',s',z',k1,fun c=>⟨(h2 (k2 c).1).1,(h2 (k2 c).1).2,trivial,(k2 c).2⟩⟩
   |gQ i j d=>
    simp only [jq] at h1
    obtain ⟨tr,t',s',z',k1,k2⟩:=ff Mn h1
    exact ⟨.gQ i j d,[],[],tr,t',s',z',k1,fun c=>⟨(h2 (k2 c).1).1,(h2 (k2 c).1).2,trivial,(k2 c).2⟩⟩
   |dW i ob OV d=>
    simp only [jq] at h1
    obtain ⟨z2,h3,h4⟩:=qY h1
    rw [gN] at h3
    obtain ⟨tr,t',s',z',k1,k2⟩:=ff Mn h3
    exact ⟨.dW i ob OV d,[],[],tr,t',s',z',k1,fun c=>⟨(h2 (h4 (k2 c).1)).1,(h2 (h4 (k2 c).1)).2,trivial,(k2 c).2⟩⟩
   |new ob mk=>
    simp only [jq] at h1
    obtain ⟨z2,h3,h4⟩:=qY h1
    rw [oa] at h3
    obtain ⟨tr,t',s',z',k1,k2⟩:=ff Mn h3
    exact ⟨.new ob mk,[],[],tr,t',s',z',k1,fun c=>⟨(h2 (h4 (k2 c).1)).1,(h2 (h4 (k2 c).1)).2,trivial,(k2 c).2⟩⟩
   |all s2 d=>
    simp only [jq] at h1
    obtain ⟨z2,l,kc,h3,h4⟩:=CJ h1
    obtain ⟨tr,t',s',z',k1,k2⟩:=ff Mn h3
    exact ⟨.all s2 d,l,kc,tr,t',s',z',k1,fun c=>⟨(h2 (h4 (k2 c).1).1).1,(h2 (h4 (k2 c).1).1).2,(h4 (k2 c).1).2,(k2 c).2⟩⟩
  unfold k8 at h
  simp only at h
  split at h
  ·rename_i hg
   obtain ⟨e,l,kc,tr,t',s',z',k1,k2⟩:=run (want:=True) h
   refine ⟨⟨o,t,s,some e,l,kc⟩::tr,t',s',z',by simpa using k1,fun c=>⟨(k2 c).1,_,_,rfl,rfl,rfl,rfl,⟨?_,(k2 c).2.2.1⟩,(k2 c).2.2.2⟩⟩
   simp only [Tr.GH,hg]
   exact ⟨e,rfl,(k2 c).2.1⟩
  ·rename_i j want hg
   split at h
   ·rename_i b hb
    obtain ⟨z1,⟨h1,h2⟩|⟨h1,h2⟩⟩:=kq h
    ·obtain ⟨e,l,kc,tr,t',s',z',k1,k2⟩:=run (want:=True) h1
     refine ⟨⟨o,t,s,some e,l,kc⟩::tr,t',s',z',by simpa using k1,fun c=>⟨(h2 (k2 c).1).1,_,_,rfl,rfl,rfl,rfl,⟨?_,(k2 c).2.2.1⟩,(k2 c).2.2.2⟩⟩
     simp only [Tr.GH,hg]
     exact .inl ⟨b,hb,.inl ⟨by simpa using (h2 (k2 c).1).2,e,rfl,(k2 c).2.1⟩⟩
    ·rw [jq] at h1
     obtain ⟨tr,t',s',z',k1,k2⟩:=ff Mn h1
     refine ⟨⟨o,t,s,none,[],[]⟩::tr,t',s',z',by simpa [Tr.fp] using k1,fun c=>⟨(h2 (k2 c).1).1,_,_,rfl,rfl,rfl,rfl,⟨?_,trivial⟩,(k2 c).2⟩⟩
     simp only [Tr.GH,hg]
     exact .inl ⟨b,hb,.inr ⟨by simpa using (h2 (k2 c).1).2,trivial⟩⟩
   ·rename_i hb
    rw [jq] at h
    obtain ⟨tr,t',s',z',k1,k2⟩:=ff Mn h
    refine ⟨⟨o,t,s,none,[],[]⟩::tr,t',s',z',by simpa [Tr.fp] using k1,fun c=>⟨(k2 c).1,_,_,rfl,rfl,rfl,rfl,⟨?_,trivial⟩,(k2 c).2⟩⟩
    simp only [Tr.GH,hg]
    exact .inr ⟨hb,trivial⟩
   ·cases h
theorem ir {M M':MM} (le:M.Le M') {t:List D} {a:Act} (h:bS M t a.tmps) {dst:Option Nat} {d:D} {v:Value} (hr:bk M' d v):bS M' (put t dst d) (a.put dst v).tmps:=by
 cases dst with
 |none=>exact h.mono le
 |some i=>
  refine ⟨by simp [put,Act.put,h.1],fun k d' v' p q=> ?_⟩
  simp only [put,Act.put] at p q
  by_cases e:i=k
  ·subst e
   have LN:i<t.length:=by
    rcases SY i t.length with x|x
    ·exact x
    ·rw [SN (by simpa using x)] at p;cases p
   have Pf:i<a.tmps.size:=by rw [← h.1];exact LN
   simp [LN] at p
   simp [Pf] at q
   subst p q
   exact hr
  ·rw [TP e] at p
   rw [Tu e] at q
   exact (h.2 k d' v' p q).mono le
theorem di (a:Act) (dst:Option Nat) (v:Value):(a.put dst v).defers=a.defers:=by cases dst<;>rfl
theorem sY {M:MM} {ops:Array Oper} {t:List D} {a:Act} {j:Nat} {b:Bool} (h:∀i,(ops[j]?).bind (·.dst)=some i→bk M (t.getD i .undef) (a.tmps.getD i undef)) (hg:jf ops t j= .bool b):yielded ops a.tmps j=some b:=by
 unfold jf at hg
 split at hg
 ·rename_i o ho
  split at hg
  ·rename_i i hi
   have h1:=h i (by simp [ho,hi])
   rw [hg] at h1
   unfold yielded
   simp only [ho,T4,hi]
   generalize hv:a.tmps.getD i undef=v at h1
   cases h1
   rw [Tc] at hv
   cases e:a.tmps[i]? with
   |none=>rw [e] at hv;cases hv
   |some u=>rw [e] at hv;simp only [Ty] at hv;subst hv;rfl
  ·cases hg
 ·cases hg
theorem qt {M:MM} :bk M (.aC []) undef:= .aC rfl (fun i d v h=>by simp at h)
theorem oV {M:MM} {ops:Array Oper} {t:List D} {a:Act} {j:Nat} (h:∀i,(ops[j]?).bind (·.dst)=some i→bk M (t.getD i .undef) (a.tmps.getD i undef)) (hg:jf ops t j= .aC []):yielded ops a.tmps j=none:=by
 unfold jf at hg
 split at hg
 ·rename_i o ho
  split at hg
  ·rename_i i hi
   have h1:=h i (by simp [ho,hi])
   rw [hg] at h1
   unfold yielded
   simp only [ho,T4,hi]
   generalize hv:a.tmps.getD i undef=v at h1
   cases h1
   rw [Tc] at hv
   cases e:a.tmps[i]? with
   |none=>rfl
   |some u=>rw [e] at hv;simp only [Ty] at hv;subst hv;rfl
  ·cases hg
 ·cases hg
theorem iR {M:MM} {t:List D} {vs:Array Value} (h:bS M t vs) (i:Nat):bk M (t.getD i .undef) (vs.getD i undef):=by
 cases e:t[i]? with
 |none=>rw [SK,e];exact .undef _
 |some d=>
  obtain ⟨v,hv,hr⟩:=h.get e
  rw [SK,e,Tc,hv]
  exact hr
theorem kM {s:List Ob} {i:Nat} (h:i<s.length) (o:Ob):bo (s.set i o)=dW (bo s) i o:=by
 funext k
 unfold bo dW
 simp only [SK]
 by_cases e:k=i
 ·subst e;rw [List.getElem?_set_self h];simp
 ·rw [TP (Ne.symm e),if_neg e]
theorem nW (s:List Ob) (o:Ob):bo (s++ [o])=dW (bo s) s.length o:=by
 funext k
 unfold bo dW
 simp only [SK,List.getElem?_append]
 by_cases e:k=s.length
 ·subst e;simp
 ·rw [if_neg e]
  split
  ·rfl
  ·rename_i h
   rw [SN (by simp;omega),SN (by omega)]
theorem MM.jM {M M':MM} {n m:Nat} (h:M.upto n) (hb:∀j,m≤j→M'.box j=M.box j) (hh:∀j,m≤j→M'.bl j=M.bl j) (hm:n≤m):M'.upto m:=
 ⟨fun id hi=>by rw [hb id hi];exact h.1 id (by omega),fun id v hi=>by rw [hh id hi];exact h.2 id v (by omega)⟩
theorem Bm {P:Program} {ops:Array Oper} {x:Tr} (hx:x.ok P ops) {w0:dq} {M:MM} {own:Nat→Option Nat} {w:World} {a:Act} (hw:bw w0 M own (bo x.s) w) (hu:M.upto x.s.length) (ht:bS M x.t a.tmps)
  {next:Act→World→Prop} {Q:Exit→Act→World→Prop}
  (hn:∀M' LB w' a',M.Le M'→M'.upto x.ee.length→bw w0 M' LB (bo x.ee) w'→bS M' x.Ay a'.tmps→a'.defers=a.defers→next a' w'):
  (if TC x.o (yielded ops a.tmps) then Gc P x.o a w next Q else next (a.put x.o.dst undef) w)∧x.s.length≤x.ee.length:=by
 obtain ⟨o,t,s,e,l,kc⟩:=x
 replace hx:=hx.1
 replace hu:M.upto s.length:=hu
 replace hw:bw w0 M own (bo s) w:=hw
 replace ht:bS M t a.tmps:=ht
 have PW:∀ {e0:iM},e=some e0→iL P o (bR t) s e0→Gc P o a w next Q∧s.length≤(⟨o,t,s,e,l,kc⟩:Tr).ee.length:=by
  intro e0 he h0
  subst he
  have NH:∀y∈o.op.operands,bk M (bR t y) (a.eval y):=fun y _=>m6 ht y
  have L9:M.box s.length=none∧∀v,M.bl s.length v=none:=⟨hu.1 _ (SP _),fun v=>hu.2 _ v (SP _)⟩
  cases e0 with
  |pure d=>
   exact ⟨h0 w0 M own _ w a s.length hw NH trivial next Q fun v M' LB w' le ad Nf hr=>hn M' LB w' _ le (MM.jM hu (m:=s.length) (fun j _=>by rw [ad.1]) (fun j _=>by rw [ad.2]) (SP _)) Nf (ir le ht hr) (di _ _ _),SP _⟩
  |gQ i j d=>
   exact ⟨h0.2 w0 M own _ w a s.length hw NH h0.1.1 next Q fun v M' LB w' le ad Nf hr=>hn M' LB w' _ le (MM.jM hu (m:=s.length) (fun j _=>by rw [ad.1]) (fun j _=>by rw [ad.2]) (SP _)) Nf (ir le ht hr) (di _ _ _),SP _⟩
  |read i ob d=>
   exact ⟨h0.2 w0 M own _ w a s.length hw NH h0.1.1 next Q fun v M' LB w' le ad Nf hr=>hn M' LB w' _ le (MM.jM hu (m:=s.length) (fun j _=>by rw [ad.1]) (fun j _=>by rw [ad.2]) (SP _)) Nf (ir le ht hr) (di _ _ _),SP _⟩
  |dW i ob OV d=>
   refine ⟨h0.2 w0 M own _ w a s.length hw NH h0.1.1 next Q fun v M' LB w' le ad Nf hr=>hn M' LB w' _ le (by
    simp only [Tr.ee,List.length_set]
    exact MM.jM hu (fun j _=>by rw [ad.1]) (fun j hj=>ad.2 j (by have:=h0.1.2;omega)) (SP _)) (by simp only [Tr.ee];rw [kM h0.1.2];exact Nf) (ir le ht hr) (di _ _ _),by simp [Tr.ee]⟩
  |new ob mk=>
   refine ⟨h0 w0 M own _ w a s.length hw NH L9 next Q fun v M' LB w' le ad Nf hr=>hn M' LB w' _ le (by
    simp only [Tr.ee,SS,List.length_singleton]
    exact MM.jM hu (fun j hj=>ad.1 j (by omega)) (fun j hj=>ad.2 j (by omega)) (by omega)) (by simp only [Tr.ee];rw [nW];exact Nf) (ir le ht hr) (di _ _ _),by simp [Tr.ee]⟩
  |all s' d=>
   exact ⟨h0.2 w0 M own w a hw hu NH next Q fun v M' LB w' le up Nf hr=>hn M' LB w' _ le up Nf (ir le ht hr) (di _ _ _),h0.1⟩
 unfold Tr.GH at hx
 simp only at hx
 split at hx
 ·rename_i hg
  obtain ⟨e0,he,h0⟩:=hx
  obtain ⟨k1,k2⟩:=PW he h0
  refine ⟨?_,k2⟩
  have:TC o (yielded ops a.tmps)=true:=by simp [TC,hg]
  rw [if_pos this]
  exact k1
 ·rename_i j want hg
  rcases hx with ⟨b,hb,MC⟩|⟨hb,rfl⟩
  ·have hy:=sY (M:=M) (a:=a) (fun i _=>iR ht i) hb
   rcases MC with ⟨rfl,e0,he,h0⟩|⟨ME,rfl⟩
   ·obtain ⟨k1,k2⟩:=PW he h0
    refine ⟨?_,k2⟩
    have:TC o (yielded ops a.tmps)=true:=by simp [TC,hg,hy]
    rw [if_pos this]
    exact k1
   ·have:TC o (yielded ops a.tmps)=false:=by simp [TC,hg,hy,ME]
    rw [this]
    exact ⟨hn M own w _ (.refl M) hu hw (ir (.refl M) ht qt) (di _ _ _),SP _⟩
  ·have hy:=oV (M:=M) (a:=a) (fun i _=>iR ht i) hb
   have:TC o (yielded ops a.tmps)=false:=by simp [TC,hg,hy]
   rw [this]
   exact ⟨hn M own w _ (.refl M) hu hw (ir (.refl M) ht qt) (di _ _ _),SP _⟩
theorem oO {P:Program} {ops:Array Oper} {w0:dq} {Q:Exit→Act→World→Prop} {df:List Deferred} (rr:Option Nat):∀ {rest:List Oper} {t:List D} {s:List Ob} {tr:List Tr} {t':List D} {s':List Ob},Trace P ops rest t s tr t' s'→
  ∀ {M:MM} {own:Nat→Option Nat} {w:World} {a:Act} (k:Nat),ops.toList.drop k=rest→bw w0 M own (bo s) w→M.upto s.length→bS M t a.tmps→a.defers=df→
  (∀M' LB w' a',M.Le M'→M'.upto s'.length→bw w0 M' LB (bo s') w'→bS M' t' a'.tmps→a'.defers=df→Q .normal a' w')→wpOpsIn (FW rr) 0 P ops Q (List.range' k rest.length) a w
 | [],t,s,tr,t',s',h,M,own,w,a,k,hk,hw,hu,ht,hd,hq=>by
  obtain ⟨rfl,rfl,rfl⟩:=h
  exact hq M own w a (.refl M) hu hw ht hd
 |o::rest,t,s,tr,t',s',h,M,own,w,a,k,hk,hw,hu,ht,hd,hq=>by
  obtain ⟨x,xs,rfl,rfl,rfl,rfl,L8,h⟩:=h
  have OT:ops[k]? =some x.o:=by
   rw [← S4]
   have:=congrArg (fun l=>l[0]?) hk
   simpa using this
  have QW:ops.toList.drop (k+1)=rest:=by
   have:=congrArg List.tail hk
   simpa using this
  rw [SX,List.range'_succ]
  simp only [wpOpsIn,OT]
  have hs:=(Bm (next:=wpOpsIn (FW rr) 0 P ops Q (List.range' (k+1) rest.length)) (Q:=Q) L8 hw hu ht fun M' LB w' a' le up Nf QB QS=>oO rr h (k+1) QW Nf up QB (by rw [QS];exact hd) fun M2 Nu w2 a2 NC up2 Od PA hd2=>hq M2 Nu w2 a2 (le.trans NC) up2 Od PA hd2).1
  split
  ·rename_i RT
   rw [if_pos RT] at hs
   exact hs rr
  ·rename_i RT
   rw [if_neg RT] at hs
   exact ⟨fun _ _=>trivial,hs⟩
theorem mU {P:Program} {ops:Array Oper} :∀ {rest:List Oper} {t:List D} {s:List Ob} {tr:List Tr} {t':List D} {s':List Ob},Trace P ops rest t s tr t' s'→∀(i:Nat) (x:Tr),tr[i]? =some x→rest[i]? =some x.o∧x.ok P ops
 | [],_,_,_,_,_,h,i,x,hx=>by obtain ⟨rfl,_⟩:=h;simp at hx
 |o::rest,_,_,_,_,_,h,i,x,hx=>by
  obtain ⟨y,xs,rfl,ho,_,_,L8,h⟩:=h
  cases i with
  |zero=>simp at hx;subst hx;exact ⟨by simp [ho],L8⟩
  |succ i=>exact mU h i x (by simpa using hx)
theorem sK {P:Program} {ops:Array Oper} {x:Tr} (h:x.ok P ops):x.s.length≤x.ee.length:=by
 obtain ⟨o,t,s,e,l,kc⟩:=x
 replace h:=h.1
 have PW:∀ {e0:iM},e=some e0→iL P o (bR t) s e0→s.length≤(⟨o,t,s,e,l,kc⟩:Tr).ee.length:=by
  intro e0 he h0
  subst he
  cases e0 with
  |pure d=>exact SP _
  |read i ob d=>exact SP _
  |gQ i j d=>exact SP _
  |dW i ob OV d=>simp [Tr.ee]
  |new ob mk=>simp [Tr.ee]
  |all s' d=>exact h0.1
 unfold Tr.GH at h
 simp only at h
 split at h
 ·obtain ⟨e0,he,h0⟩:=h;exact PW he h0
 ·obtain ⟨b,_,⟨_,e0,he,h0⟩|⟨_,rfl⟩⟩|⟨_,rfl⟩:=h
  ·exact PW he h0
  ·exact SP _
  ·exact SP _
theorem iV {P:Program} {ops:Array Oper} :∀ {rest:List Oper} {t:List D} {s:List Ob} {tr:List Tr} {t':List D} {s':List Ob},Trace P ops rest t s tr t' s'→s.length≤s'.length
 | [],_,_,_,_,_,h=>by obtain ⟨_,_,rfl⟩:=h;exact SP _
 |o::rest,_,_,_,_,_,h=>by
  obtain ⟨x,xs,rfl,_,_,rfl,L8,h⟩:=h
  exact Nat.le_trans (sK L8) (iV h)
theorem mJ (acc:List Nat):∀(es:List Edge) (m k:Nat),(es.foldl (fun m e=>match Region.binds .any e with|true=>m|||(1<<<e.on)|||acc.getD e.on 0|false=>m) m).testBit k=true→
  m.testBit k=true∨∃e∈es,Region.binds .any e=true∧(k=e.on∨(acc.getD e.on 0).testBit k=true)
 | [],m,k,h=> .inl h
 |e::es,m,k,h=>by
  rw [List.foldl_cons] at h
  rcases mJ acc es _ k h with h|⟨e',he,h1,h2⟩
  ·split at h
   ·rename_i hb
    rw [Nat.testBit_or,Nat.testBit_or,Tz,Tz] at h
    rcases h with (h|h)|h
    ·exact .inl h
    ·refine .inr ⟨e,by simp,hb,.inl ?_⟩
     rw [Nat.one_shiftLeft,Nat.testBit_two_pow] at h
     exact (of_decide_eq_true h).symm
    ·exact .inr ⟨e,by simp,hb,.inr h⟩
   ·exact .inl h
  ·exact .inr ⟨e',by simp [he],h1,h2⟩
def vM (o:Oper) (acc:List Nat):Nat:=o.after.toList.foldl (fun m e=>match Region.binds .any e with|true=>m|||(1<<<e.on)|||acc.getD e.on 0|false=>m) 0
theorem iz:∀(rest:List Oper) (acc:List Nat),(gA rest acc).length=acc.length+rest.length∧(gA rest acc).take acc.length=acc∧
  ∀(j:Nat) (o:Oper),rest[j]? =some o→(gA rest acc)[acc.length+j]? =some (vM o ((gA rest acc).take (acc.length+j)))
 | [],acc=>⟨by simp [gA],by simp [gA],fun j o h=>by simp at h⟩
 |o::rest,acc=>by
  have ih:=iz rest (acc++ [vM o acc])
  have hun:gA (o::rest) acc=gA rest (acc++ [vM o acc]):=rfl
  rw [hun]
  obtain ⟨h1,h2,h3⟩:=ih
  have Rj:(gA rest (acc++ [vM o acc])).take acc.length=acc:=by
   have:=congrArg (fun l=>l.take acc.length) h2
   simp only [SS,List.length_singleton,List.take_take] at this
   rw [show min acc.length (acc.length+1)=acc.length by omega] at this
   rw [this]
   simp
  refine ⟨by rw [h1];simp;omega,Rj,fun j q hq=> ?_⟩
  cases j with
  |zero=>
   simp at hq
   subst hq
   rw [Nat.add_zero,Rj]
   have:=congrArg (fun l=>l[acc.length]?) h2
   simp only [SS,List.length_singleton,T1] at this
   rw [if_pos (by omega)] at this
   rw [this]
   simp
  |succ j=>
   have:=h3 j q (by simpa using hq)
   simp only [SS,List.length_singleton] at this
   rw [show acc.length+1+j=acc.length+(j+1) by omega] at this
   exact this
def Al (ops:Array Oper) (L:Nat→Bool) (j:Nat):Prop:= ∀o,ops[j]? =some o→∀e∈o.after.toList,Region.binds .any e=true→L e.on=true
def closed (ops:Array Oper) (L:Nat→Bool):Prop:= ∀i,L i=true→Al ops L i
theorem reach {ops:Array Oper} {L:Nat→Bool} (hc:closed ops L):∀(n j:Nat),j≤n→Al ops L j→∀k,((gA ops.toList []).getD j 0).testBit k=true→L k=true:=by
 intro n
 induction n with
 |zero=>
  intro j hj hp k hk
  obtain rfl:j=0:=by omega
  cases ho:ops[0]? with
  |none=>
   have hlen:=(iz ops.toList []).1
   have:(gA ops.toList [])[0]? =none:=by
    rw [List.getElem?_eq_none_iff,hlen,S3,Ti,Tl]
    exact Array.getElem?_eq_none_iff.1 ho
   rw [SK,this] at hk
   simp at hk
  |some o=>
   have h:=(iz ops.toList []).2.2 0 o (by rw [S4];exact ho)
   simp only [S3,Ti,List.take_zero] at h
   rw [SK,h,Ty] at hk
   rcases mJ _ _ _ _ hk with h0|⟨e,he,h1,h2⟩
   ·simp at h0
   ·rcases h2 with rfl|h2
    ·exact hp o ho e he h1
    ·simp at h2
 |succ n ih=>
  intro j hj hp k hk
  cases ho:ops[j]? with
  |none=>
   have hlen:=(iz ops.toList []).1
   have:(gA ops.toList [])[j]? =none:=by
    rw [List.getElem?_eq_none_iff,hlen,S3,Ti,Tl]
    exact Array.getElem?_eq_none_iff.1 ho
   rw [SK,this] at hk
   simp at hk
  |some o=>
   have h:=(iz ops.toList []).2.2 j o (by rw [S4];exact ho)
   simp only [S3,Ti] at h
   rw [SK,h,Ty] at hk
   rcases mJ _ _ _ _ hk with h0|⟨e,he,h1,h2⟩
   ·simp at h0
   ·have hL:=hp o ho e he h1
    rcases h2 with rfl|h2
    ·exact hL
    ·rw [SK,T1] at h2
     split at h2
     ·rename_i LN
      refine ih e.on (by omega) (hc _ hL) k ?_
      rw [SK]
      exact h2
     ·simp at h2
section
variable (tr:List Tr) (t0:List D) (σ0:Nat→Ob)
def cR (x:Tr) (id:Nat):Prop:=match x.e with
  |some (.dW i _ _ _)=>id=i
  |some (.new _ _)=>id=x.s.length
  |some (.all _ _)=>id∉x.k
  |_=>False
def e7 (L:Nat→Bool):Nat→List D
  |0=>t0
  |k+1=>match L k,tr[k]? with
    |true,some x=>put (e7 L k) x.o.dst x.val
    |_,_=>e7 L k
def ca (L:Nat→Bool):Nat→Nat→Ob
  |0=>σ0
  |k+1=>match L k,tr[k]? with
    |true,some x=>match x.e with
      |some (.dW i _ o' _)=>dW (ca L k) i o'
      |some (.new o' _)=>dW (ca L k) x.s.length o'
      |some (.all s' _)=>fun id=>if id∈x.k then ca L k id else bo s' id
      |_=>ca L k
    |_,_=>ca L k
theorem ie {t:List D} {dst:Option Nat} {d:D} {i:Nat} (h:dst≠some i):(put t dst d)[i]? =t[i]? :=by
 cases dst with
 |none=>rfl
 |some j=>exact TP (fun e=>h (by rw [e]))
theorem yb (t:List D) (dst:Option Nat) (d:D):(put t dst d).length=t.length:=by cases dst<;>simp [put]
theorem fV (L:Nat→Bool):∀k,(e7 tr t0 L k).length=t0.length
 |0=>rfl
 |k+1=>by
  unfold e7
  split
  ·rw [yb,fV L k]
  ·exact fV L k
theorem jy {L L':Nat→Bool} {i:Nat} :∀k,(∀j x,j<k→tr[j]? =some x→x.o.dst=some i→L j=L' j)→(e7 tr t0 L k)[i]? =(e7 tr t0 L' k)[i]?
 |0,_=>rfl
 |k+1,h=>by
  have ih:=jy (L:=L) (L':=L') (i:=i) k (fun j x hj=>h j x (by omega))
  have hlen:(e7 tr t0 L k).length=(e7 tr t0 L' k).length:=by rw [fV,fV]
  unfold e7
  cases hx:tr[k]? with
  |none=>cases L k<;>cases L' k<;>exact ih
  |some x=>
   by_cases hd:x.o.dst=some i
   ·rw [h k x (by omega) hx hd]
    cases L' k
    ·exact ih
    ·simp only [hd,put,List.getElem?_set,hlen,if_true]
   ·cases L k<;>cases L' k<;>simp only []<;>first|exact ih|(rw [ie hd];exact ih)|(rw [ie hd,ie hd];exact ih)
theorem mM {L:Nat→Bool} {i:Nat} (m:Nat):∀k,m≤k→(∀j x,m≤j→j<k→tr[j]? =some x→x.o.dst=some i→L j=false)→(e7 tr t0 L k)[i]? =(e7 tr t0 L m)[i]?
 |0,hm,_=>by
  have e:m=0:=by omega
  subst e
  rfl
 |k+1,hm,h=>by
  by_cases e:m=k+1
  ·subst e;rfl
  ·have ih:=mM m k (by omega) (fun j x h1 h2=>h j x h1 (by omega))
   conv=>lhs;unfold e7
   cases hx:tr[k]? with
   |none=>cases L k<;>exact ih
   |some x=>
    by_cases hd:x.o.dst=some i
    ·rw [h k x (by omega) (by omega) hx hd];exact ih
    ·cases L k
     ·exact ih
     ·simp only [];rw [ie hd];exact ih
theorem iy {L L':Nat→Bool} {id:Nat} :∀k,(∀j x,j<k→tr[j]? =some x→cR x id→L j=L' j)→ca tr σ0 L k id=ca tr σ0 L' k id
 |0,_=>rfl
 |k+1,h=>by
  have ih:=iy (L:=L) (L':=L') (id:=id) k (fun j x hj=>h j x (by omega))
  unfold ca
  cases hx:tr[k]? with
  |none=>cases L k<;>cases L' k<;>exact ih
  |some x=>
   have hk:=h k x (by omega) hx
   unfold cR at hk
   cases he:x.e with
   |none=>cases L k<;>cases L' k<;>simp only [he]<;>exact ih
   |some e=>
    rw [he] at hk
    cases e with
    |pure d=>cases L k<;>cases L' k<;>simp only [he]<;>exact ih
    |read i o d=>cases L k<;>cases L' k<;>simp only [he]<;>exact ih
    |gQ i j d=>cases L k<;>cases L' k<;>simp only [he]<;>exact ih
    |dW i o o' d=>
     by_cases e1:id=i
     ·rw [hk e1];cases L' k<;>simp only [he,dW,e1,if_true]<;>(try exact e1▸ih)
     ·cases L k<;>cases L' k<;>simp only [he,dW,e1,if_false]<;>exact ih
    |new o' mk=>
     by_cases e1:id=x.s.length
     ·rw [hk e1];cases L' k<;>simp only [he,dW,e1,if_true]<;>(try exact e1▸ih)
     ·cases L k<;>cases L' k<;>simp only [he,dW,e1,if_false]<;>exact ih
    |all s' d=>
     by_cases e1:id∈x.k
     ·cases L k<;>cases L' k<;>simp only [he,e1,if_true]<;>exact ih
     ·rw [hk e1];cases L' k<;>simp only [he,e1,if_false];exact ih
theorem jh {L:Nat→Bool} {id:Nat} (m:Nat):∀k,m≤k→(∀j x,m≤j→j<k→tr[j]? =some x→cR x id→L j=false)→ca tr σ0 L k id=ca tr σ0 L m id
 |0,hm,_=>by
  have e:m=0:=by omega
  subst e
  rfl
 |k+1,hm,h=>by
  by_cases e:m=k+1
  ·subst e;rfl
  ·have ih:=jh m k (by omega) (fun j x h1 h2=>h j x h1 (by omega))
   conv=>lhs;unfold ca
   cases hx:tr[k]? with
   |none=>cases L k<;>exact ih
   |some x=>
    have hk:=h k x (by omega) (by omega) hx
    unfold cR at hk
    cases hL:L k with
    |false=>exact ih
    |true=>
     rw [hL] at hk
     simp only []
     cases he:x.e with
     |none=>exact ih
     |some e=>
      rw [he] at hk
      cases e with
      |pure d=>exact ih
      |read i o d=>exact ih
      |gQ i j d=>exact ih
      |dW i o o' d=>
       by_cases e1:id=i
       ·exact absurd (hk e1) (by simp)
       ·simp only [dW,e1,if_false];exact ih
      |new o' mk=>
       by_cases e1:id=x.s.length
       ·exact absurd (hk e1) (by simp)
       ·simp only [dW,e1,if_false];exact ih
      |all s' d=>
       by_cases e1:id∈x.k
       ·simp only [e1,if_true];exact ih
       ·exact absurd (hk e1) (by simp)
end
theorem rF {P:Program} {ops:Array Oper} :∀ {rest:List Oper} {t:List D} {s:List Ob} {tr:List Tr} {t':List D} {s':List Ob},Trace P ops rest t s tr t' s'→
  (∀(i:Nat) (x:Tr),tr[i]? =some x→e7 tr t (fun _=>true) i=x.t∧ca tr (bo s) (fun _=>true) i=bo x.s∧s.length≤x.s.length∧x.ee.length≤s'.length∧
   (∀(j:Nat) (y:Tr),j<i→tr[j]? =some y→y.ee.length≤x.s.length)∧(∀id,s.length≤id→id<x.s.length→∃j y,j<i∧tr[j]? =some y∧y.s.length≤id∧id<y.ee.length))∧
  e7 tr t (fun _=>true) tr.length=t'∧ca tr (bo s) (fun _=>true) tr.length=bo s'
 | [],t,s,tr,t',s',h=>by
  obtain ⟨rfl,rfl,rfl⟩:=h
  exact ⟨fun i x hx=>by simp at hx,rfl,rfl⟩
 |o::rest,t,s,tr,t',s',h=>by
  obtain ⟨x,xs,rfl,rfl,rfl,rfl,L8,h⟩:=h
  obtain ⟨ih,ih1,ih2⟩:=rF h
  have Ss:=sK L8
  have O7:∀k,e7 (x::xs) x.t (fun _=>true) (k+1)=e7 xs x.Ay (fun _=>true) k:=by
   intro k
   induction k with
   |zero=>rfl
   |succ k ihk=>
    conv=>lhs;unfold e7
    conv=>rhs;unfold e7
    simp only [TH]
    cases xs[k]? with
    |none=>exact ihk
    |some y=>simp only [];rw [ihk]
  have Oh:ca (x::xs) (bo x.s) (fun _=>true) 1=bo x.ee:=by
   unfold ca ca
   simp only [List.getElem?_cons_zero]
   unfold Tr.ee
   cases he:x.e with
   |none=>rfl
   |some e=>
    cases e with
    |pure d=>rfl
    |read i o d=>rfl
    |gQ i j d=>rfl
    |dW i ob OV d=>
     have:i<x.s.length:=by
      replace L8:=L8.1
      unfold Tr.GH at L8
      rw [he] at L8
      split at L8
      ·obtain ⟨e0,h0,h1⟩:=L8;cases h0;exact h1.1.2
      ·obtain ⟨b,_,⟨_,e0,h0,h1⟩|⟨_,h0⟩⟩|⟨_,h0⟩:=L8
       ·cases h0;exact h1.1.2
       ·cases h0
       ·cases h0
     simp only []
     rw [kM this]
    |new ob mk=>simp only [];rw [nW]
    |all s2 d=>
     have hk:=L8.2
     unfold Tr.JP at hk
     rw [he] at hk
     simp only []
     funext id
     by_cases e1:id∈x.k
     ·rw [if_pos e1];exact (hk.1 id e1).2
     ·rw [if_neg e1]
  have Pj:∀k,ca (x::xs) (bo x.s) (fun _=>true) (k+1)=ca xs (bo x.ee) (fun _=>true) k:=by
   intro k
   induction k with
   |zero=>exact Oh
   |succ k ihk=>
    conv=>lhs;unfold ca
    conv=>rhs;unfold ca
    simp only [TH]
    cases xs[k]? with
    |none=>exact ihk
    |some y=>simp only [];rw [ihk]
  refine ⟨fun i y hy=> ?_,by rw [SX,O7];exact ih1,by rw [SX,Pj];exact ih2⟩
  cases i with
  |zero=>
   simp at hy
   subst hy
   exact ⟨rfl,rfl,SP _,iV h,fun j y hj=>by omega,fun id h1 h2=>by omega⟩
  |succ i=>
   obtain ⟨a1,a2,a3,a4,a5,a6⟩:=ih i y (by simpa using hy)
   refine ⟨by rw [O7];exact a1,by rw [Pj];exact a2,by omega,a4,?_,?_⟩
   ·intro j z hj hz
    cases j with
    |zero=>simp at hz;subst hz;exact a3
    |succ j=>exact a5 j z (by omega) (by simpa using hz)
   ·intro id h1 h2
    rcases SY id x.ee.length with q|q
    ·exact ⟨0,x,by omega,rfl,h1,q⟩
    ·obtain ⟨j,z,b1,b2,b3,b4⟩:=a6 id q h2
     exact ⟨j+1,z,by omega,by simpa using b2,b3,b4⟩
theorem rE {ops:Array Oper} {tr:List Tr} (h:mL ops ((tr.map Tr.fp).reverse++ [])=true):
  tr.length=ops.size∧(∀(j:Nat) (o:Oper),ops[j]? =some o→∀e∈o.after.toList,Region.binds .any e=true→e.on<j)∧
  ∀(i j:Nat) (x y:Tr) (ox oy:Oper),i<j→tr[i]? =some x→tr[j]? =some y→ops[i]? =some ox→ops[j]? =some oy→((gA ops.toList []).getD j 0).testBit i=true∨(share ops ox oy=false∧gg x.fp y.fp=false):=by
 unfold mL at h
 simp only [List.append_nil,List.reverse_reverse,List.length_map,Tl,SG,S8,List.all_eq_true,List.mem_range] at h
 obtain ⟨hl,h⟩:=h
 refine ⟨hl,?_,?_⟩
 ·intro j o ho e he hb
  have hj:j<ops.size:=by
   rcases SY j ops.size with q|q
   ·exact q
   ·simp [Tk q] at ho
  have:=(h j hj).1
  rw [S4,ho] at this
  simp only [Array.all_eq_true_iff_forall_mem] at this
  have h1:=this e (by simpa using he)
  rw [hb] at h1
  simp only [Bool.not_true,Bool.false_or] at h1
  exact Nat.lt_of_succ_le (by simpa [Nat.blt,TF] using h1)
 ·intro i j x y ox oy hij hx hy hox Sk
  have hj:j<ops.size:=by
   rcases SY j ops.size with q|q
   ·exact q
   ·simp [Tk q] at Sk
  have:=(h j hj).2 i hij
  rw [S4,S4,hox,Sk] at this
  simp only [SK,List.getElem?_map,hx,hy,TY,Ty,Tz,SG,TE] at this
  rw [SK]
  exact this
theorem lU {i:Nat} :∀ {l:List Nat},iE i l=true↔i∈l
 | []=>by simp [iE]
 |a::r=>by
  unfold iE
  split
  ·rename_i h;rw [S8] at h;subst h;simp
  ·rename_i h
   rw [lU]
   have:a≠i:=fun e=>by subst e;simp at h
   simp [Ne.symm this]
theorem wT {i j:Nat} :∀ {l:List (Nat×Nat)},yB i j l=true↔(i,j)∈l
 | []=>by simp [yB]
 |(a,b)::r=>by
  unfold yB
  split
  ·rename_i h1 h2
   rw [S8] at h1 h2
   subst h1 h2
   simp
  ·rename_i h
   rw [wT,TJ]
   refine ⟨.inr,fun q=> ?_⟩
   rcases q with e|q
   ·cases e
    exact (h (Nat.beq_refl i) (Nat.beq_refl j)).elim
   ·exact q
theorem gM {z:Tr} {id:Nat} (h:cR z id):z.fp= .wr id∨z.fp= .nw id∨∃l kc,z.fp= .all l kc∧id∉l:=by
 unfold cR at h
 unfold Tr.fp
 cases he:z.e with
 |none=>rw [he] at h;exact h.elim
 |some e=>
  rw [he] at h
  cases e with
  |pure d=>exact h.elim
  |read i o d=>exact h.elim
  |gQ i j d=>exact h.elim
  |dW i o o' d=>subst h;exact .inl rfl
  |new o mk=>subst h;exact .inr (.inl rfl)
  |all s d=>exact .inr (.inr ⟨z.k,z.kc,rfl,h⟩)
theorem AO {z:Tr} {id:Nat} (h1:z.s.length≤id) (h2:id<z.ee.length):z.fp= .nw id∨∃l kc,z.fp= .all l kc:=by
 unfold Tr.ee at h2
 unfold Tr.fp
 cases he:z.e with
 |none=>rw [he] at h2;simp at h2;omega
 |some e=>
  rw [he] at h2
  cases e with
  |pure d=>simp at h2;omega
  |read i o d=>simp at h2;omega
  |gQ i j d=>simp at h2;omega
  |dW i o o' d=>simp at h2;omega
  |new o mk=>
   simp at h2
   have e:id=z.s.length:=by omega
   subst e
   exact .inl rfl
  |all s d=>exact .inr ⟨_,_,rfl⟩
section
variable {P:Program} {ops:Array Oper} {t0:List D} {s0:List Ob} {tr:List Tr} {tn:List D} {sn:List Ob} {w0:dq} {M0:MM} {df:List Deferred}
structure Hy (df:List Deferred) (P:Program) (ops:Array Oper) (t0:List D) (s0:List Ob) (tr:List Tr) (w0:dq) (M0:MM) (L:Nat→Bool) (M:MM) (own:Nat→Option Nat) (w:World) (a:Act):Prop where
  cl:closed ops L
  rel:bw w0 M own (ca tr (bo s0) L ops.size) w
  wh:bS M (e7 tr t0 L ops.size) a.tmps
  defers:a.defers=df
  live:∀id,(M.box id≠none∨∃v,M.bl id v≠none)→id<s0.length∨∃(j:Nat) (y:Tr),L j=true∧tr[j]? =some y∧y.s.length≤id∧id<y.ee.length
  le:M0.Le M
def iQ (L:Nat→Bool) (i:Nat):Nat→Bool:=fun j=>if j=i then true else L j
theorem Bn (Pt:Trace P ops ops.toList t0 s0 tr tn sn) (hd:mL ops ((tr.map Tr.fp).reverse++ [])=true) {L:Nat→Bool} {M:MM} {own:Nat→Option Nat} {w:World} {a:Act} (inv:Hy df P ops t0 s0 tr w0 M0 L M own w a)
  {i:Nat} {x:Tr} (hx:tr[i]? =some x) (Qw:L i=false) (hp:Al ops L i) {Q:Exit→Act→World→Prop} {K:Act→World→Prop}
  (hK:∀M' LB w' a',Hy df P ops t0 s0 tr w0 M0 (iQ L i) M' LB w' a'→K a' w'):∀rr,wpOpIn (FW rr) 0 P ops Q i K a w:=by
 intro rr
 obtain ⟨hlen,hedge,hpair⟩:=rE hd
 obtain ⟨Ni,_,_⟩:=rF Pt
 obtain ⟨Ow,L8⟩:=mU Pt i x hx
 have OT:ops[i]? =some x.o:=by rw [← S4];exact Ow
 have NH:∀ {j:Nat} {y:Tr},tr[j]? =some y→ops[j]? =some y.o:=fun {j y} hy=>by rw [← S4];exact (mU Pt j y hy).1
 have L1:i<ops.size:=by
  rcases SY i ops.size with q|q
  ·exact q
  ·simp [Tk q] at OT
 obtain ⟨aT,aS,a3,a4,a5,a6⟩:=Ni i x hx
 have before:∀ {j:Nat} {y:Tr},j<i→tr[j]? =some y→(share ops y.o x.o=true∨gg y.fp x.fp=true)→L j=true:=by
  intro j y hj hy hc
  rcases hpair j i y x _ _ hj hy hx (NH hy) OT with h|⟨h1,h2⟩
  ·exact reach inv.cl i i (SP _) hp j h
  ·rcases hc with hc|hc
   ·rw [h1] at hc;cases hc
   ·rw [h2] at hc;cases hc
 have after:∀ {j:Nat} {y:Tr},i<j→tr[j]? =some y→(share ops x.o y.o=true∨gg x.fp y.fp=true)→L j=false:=by
  intro j y hj hy hc
  rcases hpair i j x y _ _ hj hx hy OT (NH hy) with h|⟨h1,h2⟩
  ·cases e:L j with
   |false=>rfl
   |true=>
    have:=reach inv.cl j j (SP _) (inv.cl j e) i h
    rw [Qw] at this;cases this
  ·rcases hc with hc|hc
   ·rw [h1] at hc;cases hc
   ·rw [h2] at hc;cases hc
 have NN:∀ {f g:FP} {id:Nat},(f= .wr id∨f= .nw id∨∃l kc,f= .all l kc∧id∉l)→(g= .rd id∨g= .wr id∨g= .nw id∨∃l kc,g= .all l kc)→gg f g=true:=by
  intro f g id h1 h2
  rcases h1 with rfl|rfl|⟨l,kc,rfl,hl⟩<;>rcases h2 with rfl|rfl|rfl|⟨l',kc',rfl⟩<;>simp [gg]
  cases e:iE id l
  ·rfl
  ·exact absurd (lU.1 e) hl
 have N1:∀ {f g:FP} {id:Nat},(f= .rd id∨f= .wr id∨f= .nw id∨∃l kc,f= .all l kc)→(g= .wr id∨g= .nw id∨∃l kc,g= .all l kc∧id∉l)→gg f g=true:=by
  intro f g id h1 h2
  rcases h1 with rfl|rfl|rfl|⟨l',kc',rfl⟩<;>rcases h2 with rfl|rfl|⟨l,kc,rfl,hl⟩<;>simp [gg]
  cases e:iE id l
  ·rfl
  ·exact absurd (lU.1 e) hl
 have F1:∀y,y∈qL ops x.o→(e7 tr t0 L ops.size)[y]? =x.t[y]? :=by
  intro y hy
  rw [mM tr t0 (L:=L) (i:=y) i ops.size (by omega) (fun j z h1 h2 hz NR=>by
   rcases Nat.lt_or_eq_of_le h1 with h|h
   ·refine after h hz (.inl ?_)
    unfold share
    rw [NR]
    simp only [Tz]
    right
    simpa using hy
   ·rw [← h];exact Qw)]
  rw [jy tr t0 (L:=L) (L':=fun _=>true) (i:=y) i (fun j z hj hz NR=>by
   refine before hj hz (.inl ?_)
   unfold share
   rw [NR]
   simp only [Tz]
   left;left
   simpa using hy),aT]
 have N7:∀y∈x.o.op.operands,bR (e7 tr t0 L ops.size) y=bR x.t y:=by
  intro y hy
  cases y with
  |tmp k=>
   have:k∈qL ops x.o:=by
    unfold qL DD
    refine List.mem_append.2 (.inl (List.mem_filterMap.2 ⟨.tmp k,by simpa using hy,rfl⟩))
   show List.getD _ _ _=List.getD _ _ _
   rw [SK,SK,F1 k this]
  |const v=>rfl
  |global g=>rfl
  |func f=>rfl
 have LM:∀y∈x.o.op.operands,bk M (bR x.t y) (a.eval y):=fun y hy=>by rw [← N7 y hy];exact m6 inv.wh y
 have F2:∀id,(x.fp= .rd id∨x.fp= .wr id∨x.fp= .nw id∨∃l kc,x.fp= .all l kc)→ca tr (bo s0) L ops.size id=bo x.s id:=by
  intro id NY
  rw [jh tr (bo s0) (L:=L) (id:=id) i ops.size (by omega) (fun j z h1 h2 hz ht=>by
   rcases Nat.lt_or_eq_of_le h1 with h|h
   ·exact after h hz (.inr (N1 NY (gM ht)))
   ·rw [← h];exact Qw)]
  rw [iy tr (bo s0) (L:=L) (L':=fun _=>true) (id:=id) i (fun j z hj hz ht=>before hj hz (.inr (NN (gM ht) NY))),aS]
 have order:∀ {id a b:Nat} {y z:Tr},a<b→tr[a]? =some y→tr[b]? =some z→cR y id→cR z id→L b=true→L a=true:=by
  intro id a b y z hab hy hz ty tz hLb
  have hc:gg y.fp z.fp=true:=NN (gM ty) (by
   rcases gM tz with q|q|⟨l,kc,q,_⟩
   ·exact .inr (.inl q)
   ·exact .inr (.inr (.inl q))
   ·exact .inr (.inr (.inr ⟨l,kc,q⟩)))
  rcases hpair a b y z _ _ hab hy hz (NH hy) (NH hz) with h|⟨_,h2⟩
  ·exact reach inv.cl b b (SP _) (inv.cl b hLb) a h
  ·rw [h2] at hc;cases hc
 have F3:∀id j,x.fp= .se id j→fC (ca tr (bo s0) L ops.size id) j=fC (bo x.s id) j:=by
  intro id j NY
  obtain ⟨m,hm1,Rb⟩:∃m,(∀k y,m≤k→tr[k]? =some y→cR y id→L k=false)∧∀k y,k<m→tr[k]? =some y→cR y id→L k=true:=by
   have key:∀n,(∀k y,n≤k→tr[k]? =some y→cR y id→L k=false)→∃m,(∀k y,m≤k→tr[k]? =some y→cR y id→L k=false)∧∀k y,k<m→tr[k]? =some y→cR y id→L k=true:=by
    intro n
    induction n with
    |zero=>exact fun h=>⟨0,h,fun k y hk=>by omega⟩
    |succ n ih=>
     intro h
     by_cases hn:∃y,tr[n]? =some y∧cR y id∧L n=true
     ·obtain ⟨y,hy,ty,hLn⟩:=hn
      refine ⟨n+1,h,fun k z hk hz tz=> ?_⟩
      rcases Nat.lt_or_eq_of_le (Nat.le_of_lt_succ hk) with q|q
      ·exact order q hz hy tz ty hLn
      ·subst q;exact hLn
     ·refine ih fun k y hk hy ty=> ?_
      rcases Nat.lt_or_eq_of_le hk with q|q
      ·exact h k y q hy ty
      ·subst q
       cases e:L n with
       |false=>rfl
       |true=>exact absurd ⟨y,hy,ty,e⟩ hn
   exact key tr.length fun k y hk hy=>by rw [SN hk] at hy;cases hy
  have still:∀k y,tr[k]? =some y→((m≤k∧k<i)∨(i≤k∧k<m))→fC (ca tr (bo s0) (fun _=>true) (k+1) id) j=fC (ca tr (bo s0) (fun _=>true) k id) j:=by
   intro k y hy hk
   by_cases ty:cR y id
   ·have LD:gg y.fp x.fp=false∧gg x.fp y.fp=false:=by
     rcases hk with ⟨h1,h2⟩|⟨h1,h2⟩
     ·have hL:=hm1 k y h1 hy ty
      have:gg y.fp x.fp=false:=by
       cases e:gg y.fp x.fp with
       |false=>rfl
       |true=>rw [before h2 hy (.inr e)] at hL;cases hL
      refine ⟨this,?_⟩
      rw [NY] at this ⊢
      rcases gM ty with q|q|⟨l,kc,q,_⟩
      ·rw [q,show gg (.wr id) (.se id j)=true from Nat.beq_refl id] at this;cases this
      ·rw [q,show gg (.nw id) (.se id j)=true from Nat.beq_refl id] at this;cases this
      ·rw [q] at this ⊢;exact this
     ·have hL:=Rb k y h2 hy ty
      have ME:i≠k:=fun e=>by subst e;rw [Qw] at hL;cases hL
      have:gg x.fp y.fp=false:=by
       cases e:gg x.fp y.fp with
       |false=>rfl
       |true=>rw [after (by omega) hy (.inr e)] at hL;cases hL
      refine ⟨?_,this⟩
      rw [NY] at this ⊢
      rcases gM ty with q|q|⟨l,kc,q,_⟩
      ·rw [q,show gg (.se id j) (.wr id)=true from Nat.beq_refl id] at this;cases this
      ·rw [q,show gg (.se id j) (.nw id)=true from Nat.beq_refl id] at this;cases this
      ·rw [q] at this ⊢;exact this
    have hc:=LD.2
    rw [NY] at hc
    rcases gM ty with q|q|⟨l,kc,q,hl⟩
    ·rw [q,show gg (.se id j) (.wr id)=true from Nat.beq_refl id] at hc;cases hc
    ·rw [q,show gg (.se id j) (.nw id)=true from Nat.beq_refl id] at hc;cases hc
    ·rw [q] at hc
     have OA:(id,j)∈kc:=by
      cases e:yB id j kc with
      |true=>exact wT.1 e
      |false=>
       have e2:iE id l=false:=by
        cases e3:iE id l with
        |false=>rfl
        |true=>exact absurd (lU.1 e3) hl
       simp [gg,e,e2] at hc
     obtain ⟨_,hoky⟩:=mU Pt k y hy
     obtain ⟨_,yS,_,_,_,_⟩:=Ni k y hy
     have PE:=hoky.2
     unfold Tr.fp at q
     unfold Tr.JP at PE
     cases he:y.e with
     |none=>rw [he] at q;cases q
     |some e=>
      rw [he] at q PE
      cases e with
      |all s' d=>
       simp only at q PE
       cases q
       have NZ:=PE.2 id j OA
       have e1:ca tr (bo s0) (fun _=>true) (k+1) id=bo s' id:=by
        conv=>lhs;unfold ca
        simp only [hy,he,if_neg hl]
       rw [e1,yS]
       exact NZ.symm
      |_=>cases q
   ·have e1:ca tr (bo s0) (fun _=>true) (k+1) id=ca tr (bo s0) (fun _=>true) k id:=
     jh tr (bo s0) (L:=fun _=>true) (id:=id) k (k+1) (by omega) (fun j' z h1 h2 hz tz=>by
      obtain rfl:j'=k:=by omega
      rw [hy] at hz
      obtain rfl:=SE hz
      exact absurd tz ty)
    rw [e1]
  have walk:∀n a,(∀k,a≤k→k<a+n→(m≤k∧k<i)∨(i≤k∧k<m))→a+n≤tr.length→fC (ca tr (bo s0) (fun _=>true) (a+n) id) j=fC (ca tr (bo s0) (fun _=>true) a id) j:=by
   intro n
   induction n with
   |zero=>intro a _ _;rfl
   |succ n ih=>
    intro a h hl
    rw [← Nat.add_assoc,still (a+n) _ (List.getElem?_eq_getElem (by omega)) (h (a+n) (by omega) (by omega))]
    exact ih a (fun k h1 h2=>h k h1 (by omega)) (by omega)
  have Sm:i<tr.length:=by
   rcases SY i tr.length with q|q
   ·exact q
   ·rw [SN q] at hx;cases hx
  have Rr:ca tr (bo s0) L ops.size id=ca tr (bo s0) (fun _=>true) (min m tr.length) id:=by
   rw [jh tr (bo s0) (L:=L) (id:=id) (min m tr.length) ops.size (by rw [← hlen];exact Nat.min_le_right ..) (fun k y h1 h2 hy ty=>by
    rcases SY k tr.length with q|q
    ·exact hm1 k y (by omega) hy ty
    ·rw [SN q] at hy;cases hy)]
   exact iy tr (bo s0) (L:=L) (L':=fun _=>true) (id:=id) _ (fun k y hk hy ty=>Rb k y (by omega) hy ty)
  rw [Rr,← aS]
  rcases Nat.le_total (min m tr.length) i with q|q
  ·have:=walk (i - min m tr.length) (min m tr.length) (fun k h1 h2=> .inl ⟨by omega,by omega⟩) (by omega)
   rw [show min m tr.length+(i - min m tr.length)=i by omega] at this
   exact this.symm
  ·have:=walk (min m tr.length - i) i (fun k h1 h2=> .inr ⟨by omega,by omega⟩) (by omega)
   rw [show i+(min m tr.length - i)=min m tr.length by omega] at this
   exact this
 have Oe:∀ {j:Nat},j≠i→iQ L i j=L j:=fun {j} h=>by simp [iQ,h]
 have NB:iQ L i i=true:=by simp [iQ]
 have ML:closed ops (iQ L i):=by
  intro j hj o ho e he hb
  by_cases e1:j=i
  ·subst e1
   by_cases e2:e.on=j
   ·rw [e2];exact NB
   ·rw [Oe e2];exact hp o ho e he hb
  ·rw [Oe e1] at hj
   by_cases e2:e.on=i
   ·rw [e2];exact NB
   ·rw [Oe e2];exact inv.cl j hj o ho e he hb
 have Nd:∀ {M':MM} {v:Value},M.Le M'→bk M' x.val v→bS M' (e7 tr t0 (iQ L i) ops.size) (a.put x.o.dst v).tmps:=by
  intro M' v le hv
  have hl:=inv.wh.1
  rw [fV] at hl
  refine ⟨by rw [fV];cases x.o.dst<;>simp [Act.put,hl],fun y d u h1 h2=> ?_⟩
  by_cases e:x.o.dst=some y
  ·rw [mM tr t0 (L:=iQ L i) (i:=y) (i+1) ops.size (by omega) (fun j z q1 q2 hz NR=>by
    rw [Oe (by omega)]
    refine after (by omega) hz (.inl ?_)
    unfold share
    rw [e]
    simp only [Tz]
    left;right
    simp [NR])] at h1
   unfold e7 at h1
   simp only [NB,hx,e,put] at h1
   rw [List.getElem?_set] at h1
   simp only [if_true] at h1
   split at h1
   ·obtain rfl:=SE h1
    simp only [e,Act.put] at h2
    rw [Array.getElem?_setIfInBounds] at h2
    simp only [if_true] at h2
    split at h2
    ·obtain rfl:=SE h2;exact hv
    ·cases h2
   ·cases h1
  ·rw [jy tr t0 (L:=iQ L i) (L':=L) (i:=y) ops.size (fun j z hj hz NR=>Oe (fun q=>by subst q;rw [hx] at hz;obtain rfl:=SE hz;exact e NR))] at h1
   have Rj:a.tmps[y]? =some u:=by
    cases NR:x.o.dst with
    |none=>rw [NR] at h2;exact h2
    |some k=>
     rw [NR] at h2
     simp only [Act.put] at h2
     rw [Tu (fun q=>e (by rw [NR,q]))] at h2
     exact h2
   exact (inv.wh.2 y d u h1 Rj).mono le
 have MD:∀id,¬cR x id→ca tr (bo s0) (iQ L i) ops.size id=ca tr (bo s0) L ops.size id:=fun id h=>
  iy tr (bo s0) ops.size (fun j z hj hz ht=>Oe (fun q=>by subst q;rw [hx] at hz;obtain rfl:=SE hz;exact h ht))
 have Mq:∀id,cR x id→ca tr (bo s0) (iQ L i) ops.size id=ca tr (bo s0) (iQ L i) (i+1) id:=fun id h=>
  jh tr (bo s0) (i+1) ops.size (by omega) (fun j z q1 q2 hz ht=>by
   rw [Oe (by omega)]
   refine after (by omega) hz (.inr (N1 ?_ (gM ht)))
   rcases gM h with q|q|⟨l,kc,q,_⟩
   ·exact .inr (.inl q)
   ·exact .inr (.inr (.inl q))
   ·exact .inr (.inr (.inr ⟨l,kc,q⟩)))
 have M6:∀id,(M.box id≠none∨∃v,M.bl id v≠none)→id<s0.length∨∃(j:Nat) (y:Tr),iQ L i j=true∧tr[j]? =some y∧y.s.length≤id∧id<y.ee.length:=by
  intro id h
  rcases inv.live id h with q|⟨j,y,q1,q2,q3,q4⟩
  ·exact .inl q
  ·exact .inr ⟨j,y,by by_cases e:j=i<;>simp [iQ,e,q1],q2,q3,q4⟩
 have OD:∀id,(x.fp= .wr id∨∃l kc,x.fp= .all l kc)→id<x.s.length→id<s0.length∨∃(j:Nat) (y:Tr),iQ L i j=true∧tr[j]? =some y∧y.s.length≤id∧id<y.ee.length:=by
  intro id NY L9
  rcases SY id s0.length with q|q
  ·exact .inl q
  ·obtain ⟨j,y,b1,b2,b3,b4⟩:=a6 id q L9
   refine .inr ⟨j,y,?_,b2,b3,b4⟩
   rw [Oe (by omega)]
   refine before b1 b2 (.inr ?_)
   rcases AO b3 b4 with h|⟨l,kc,h⟩
   ·refine NN (id:=id) (.inr (.inl h)) ?_
    rcases NY with h|h
    ·exact .inr (.inl h)
    ·exact .inr (.inr (.inr h))
   ·rcases NY with h2|⟨l2,kc2,h2⟩<;>rw [h,h2]<;>rfl
 have PW:∀ {e0:iM},x.e=some e0→iL P x.o (bR x.t) x.s e0→Gc P x.o a w K Q:=by
  intro e0 he h0
  have Mh:x.val=e0.val x.s.length:=by unfold Tr.val;rw [he]
  cases e0 with
  |pure d=>
   have P5:∀id,¬cR x id:=fun id h=>by unfold cR at h;rw [he] at h;exact h
   refine h0 w0 M own _ w a x.s.length inv.rel LM trivial K Q fun v M' LB w' le ad Nf hr=>hK M' LB w' _ ⟨ML,?_,Nd le (by rw [Mh];exact hr),by rw [di];exact inv.defers,?_,inv.le.trans le⟩
   ·rw [show ca tr (bo s0) (iQ L i) ops.size=ca tr (bo s0) L ops.size from funext fun id=>MD id (P5 id)];exact Nf
   ·intro id h;rw [ad.1,ad.2] at h;exact M6 id h
  |read k ob d=>
   have P5:∀id,¬cR x id:=fun id h=>by unfold cR at h;rw [he] at h;exact h
   have NY:x.fp= .rd k:=by unfold Tr.fp;rw [he]
   refine h0.2 w0 M own _ w a x.s.length inv.rel LM (by show ca _ _ _ _ k=ob;rw [F2 k (.inl NY)];exact h0.1.1) K Q fun v M' LB w' le ad Nf hr=>hK M' LB w' _ ⟨ML,?_,Nd le (by rw [Mh];exact hr),by rw [di];exact inv.defers,?_,inv.le.trans le⟩
   ·rw [show ca tr (bo s0) (iQ L i) ops.size=ca tr (bo s0) L ops.size from funext fun id=>MD id (P5 id)];exact Nf
   ·intro id h;rw [ad.1,ad.2] at h;exact M6 id h
  |gQ k jc d=>
   have P5:∀id,¬cR x id:=fun id h=>by unfold cR at h;rw [he] at h;exact h
   have NY:x.fp= .se k jc:=by unfold Tr.fp;rw [he]
   refine h0.2 w0 M own _ w a x.s.length inv.rel LM (by show fC (ca _ _ _ _ k) jc=some d;rw [F3 k jc NY];exact h0.1.1) K Q fun v M' LB w' le ad Nf hr=>hK M' LB w' _ ⟨ML,?_,Nd le (by rw [Mh];exact hr),by rw [di];exact inv.defers,?_,inv.le.trans le⟩
   ·rw [show ca tr (bo s0) (iQ L i) ops.size=ca tr (bo s0) L ops.size from funext fun id=>MD id (P5 id)];exact Nf
   ·intro id h;rw [ad.1,ad.2] at h;exact M6 id h
  |dW k ob OV d=>
   have NY:x.fp= .wr k:=by unfold Tr.fp;rw [he]
   have RK:cR x k:=by unfold cR;rw [he]
   refine h0.2 w0 M own _ w a x.s.length inv.rel LM (by show ca _ _ _ _ k=ob;rw [F2 k (.inr (.inl NY))];exact h0.1.1) K Q fun v M' LB w' le ad Nf hr=>hK M' LB w' _ ⟨ML,?_,Nd le (by rw [Mh];exact hr),by rw [di];exact inv.defers,?_,inv.le.trans le⟩
   ·rw [show ca tr (bo s0) (iQ L i) ops.size=iM.post (.dW k ob OV d) (ca tr (bo s0) L ops.size) x.s.length from funext fun id=>by
     by_cases e:id=k
     ·subst e
      rw [Mq id RK]
      unfold ca
      simp only [NB,hx,he,iM.post,aU]
     ·rw [MD id (fun h=>by unfold cR at h;rw [he] at h;exact e h)]
      simp only [iM.post,aW e]]
    exact Nf
   ·intro id h
    by_cases e:id=k
    ·subst e;exact OD id (.inl NY) h0.1.2
    ·rw [ad.1,ad.2 id e] at h;exact M6 id h
  |new ob mk=>
   have RK:cR x x.s.length:=by unfold cR;rw [he]
   have PQ:x.ee.length=x.s.length+1:=by unfold Tr.ee;rw [he];simp
   have N5:¬(M.box x.s.length≠none∨∃v,M.bl x.s.length v≠none):=by
    intro h
    rcases inv.live _ h with q|⟨j,y,q1,q2,q3,q4⟩
    ·omega
    ·rcases Nat.lt_trichotomy j i with c|c|c
     ·have:=a5 j y c q2;omega
     ·subst c;rw [Qw] at q1;cases q1
     ·have:=(Ni j y q2).2.2.2.2.1 i x c hx;omega
   have QA:M.box x.s.length=none:=by
    cases e:M.box x.s.length with
    |none=>rfl
    |some b=>exact absurd (.inl (by rw [e];simp)) N5
   have PM:∀v,M.bl x.s.length v=none:=fun v=>by
    cases e:M.bl x.s.length v with
    |none=>rfl
    |some b=>exact absurd (.inr ⟨v,by rw [e];simp⟩) N5
   refine h0 w0 M own _ w a x.s.length inv.rel LM ⟨QA,PM⟩ K Q fun v M' LB w' le ad Nf hr=>hK M' LB w' _ ⟨ML,?_,Nd le (by rw [Mh];exact hr),by rw [di];exact inv.defers,?_,inv.le.trans le⟩
   ·rw [show ca tr (bo s0) (iQ L i) ops.size=iM.post (.new ob mk) (ca tr (bo s0) L ops.size) x.s.length from funext fun id=>by
     by_cases e:id=x.s.length
     ·subst e
      rw [Mq _ RK]
      unfold ca
      simp only [NB,hx,he,iM.post,aU]
     ·rw [MD id (fun h=>by unfold cR at h;rw [he] at h;exact e h)]
      simp only [iM.post,aW e]]
    exact Nf
   ·intro id h
    by_cases e:id=x.s.length
    ·exact .inr ⟨i,x,NB,hx,by omega,by omega⟩
    ·rw [ad.1 id e,ad.2 id e] at h;exact M6 id h
  |all s' d=>
   have NY:x.fp= .all x.k x.kc:=by unfold Tr.fp;rw [he]
   have hta:∀id,id∉x.k→cR x id:=fun id hk=>by unfold cR;rw [he];exact hk
   have Nr:∀id∈x.k,id<x.s.length∧x.s.getD id .dead=s'.getD id .dead:=by have:=L8.2;unfold Tr.JP at this;rw [he] at this;exact this.1
   have PQ:x.ee=s':=by unfold Tr.ee;rw [he]
   have Rx:bw w0 M own (bo x.s) w:=by
    rw [← show ca tr (bo s0) L ops.size=bo x.s from funext fun id=>F2 id (.inr (.inr (.inr ⟨_,_,NY⟩)))];exact inv.rel
   have MY:∀id,x.s.length≤id→¬(M.box id≠none∨∃v,M.bl id v≠none):=by
    intro id L9 h
    rcases inv.live _ h with q|⟨j,y,q1,q2,q3,q4⟩
    ·omega
    ·have hy:y.fp= .nw id∨∃l kc,y.fp= .all l kc:=AO q3 q4
     rcases Nat.lt_trichotomy j i with c|c|c
     ·have:=a5 j y c q2;omega
     ·subst c;rw [Qw] at q1;cases q1
     ·have:=after c q2 (.inr (by rw [NY];rcases hy with h|⟨l,kc,h⟩<;>rw [h]<;>rfl))
      rw [q1] at this;cases this
   have Na:M.upto x.s.length:=by
    refine ⟨fun id L9=> ?_,fun id v L9=> ?_⟩
    ·cases e:M.box id with
     |none=>rfl
     |some b=>exact absurd (.inl (by rw [e];simp)) (MY id L9)
    ·cases e:M.bl id v with
     |none=>rfl
     |some b=>exact absurd (.inr ⟨v,by rw [e];simp⟩) (MY id L9)
   refine h0.2 w0 M own w a Rx Na LM K Q fun v M' LB w' le up Nf hr=>hK M' LB w' _ ⟨ML,?_,Nd le (by rw [Mh];exact hr),by rw [di];exact inv.defers,?_,inv.le.trans le⟩
   ·rw [show ca tr (bo s0) (iQ L i) ops.size=bo s' from funext fun id=>by
     by_cases e1:id∈x.k
     ·rw [MD id (fun h=>by unfold cR at h;rw [he] at h;exact h e1),F2 id (.inr (.inr (.inr ⟨_,_,NY⟩)))]
      exact (Nr id e1).2
     ·rw [Mq id (hta id e1)]
      unfold ca
      simp only [NB,hx,he,if_neg e1]]
    exact Nf
   ·intro id h
    have LN:id<s'.length:=by
     rcases SY id s'.length with q|q
     ·exact q
     ·rcases h with h|⟨v,h⟩
      ·exact absurd (up.1 id q) h
      ·exact absurd (up.2 id v q) h
    rcases SY id x.s.length with q|q
    ·exact OD id (.inr ⟨_,_,NY⟩) q
    ·exact .inr ⟨i,x,NB,hx,q,by rw [PQ];exact LN⟩
 unfold wpOpIn
 rw [OT]
 simp only []
 replace L8:=L8.1
 unfold Tr.GH at L8
 split at L8
 ·rename_i hg
  obtain ⟨e0,he,h0⟩:=L8
  have:TC x.o (yielded ops a.tmps)=true:=by simp [TC,hg]
  rw [if_pos this]
  exact PW he h0 rr
 ·rename_i j want hg
  have OH:∀k,(ops[j]?).bind (·.dst)=some k→bk M (x.t.getD k .undef) (a.tmps.getD k undef):=by
   intro k hk
   have:k∈qL ops x.o:=by
    unfold qL
    refine List.mem_append.2 (.inr ?_)
    rw [hg]
    cases hq:ops[j]? with
    |none=>rw [hq] at hk;cases hk
    |some q=>
     rw [hq] at hk
     simp only [T4] at hk
     simp only [hq,hk]
     simp
   have h1:=iR inv.wh k
   rw [SK,F1 k this,← SK] at h1
   exact h1
  have skip:x.e=none→TC x.o (yielded ops a.tmps)=false→(if TC x.o (yielded ops a.tmps) then x.o.wpIn (FW rr) 0 P a w K Q else (∀f,x.o.about P w a.eval=some f→(FW rr).fn f)∧K (a.put x.o.dst undef) w):=by
   intro he this
   rw [this]
   refine ⟨fun _ _=>trivial,?_⟩
   have P5:∀id,¬cR x id:=fun id h=>by unfold cR at h;rw [he] at h;exact h
   have Mh:x.val= .aC []:=by unfold Tr.val;rw [he]
   refine hK M own w _ ⟨ML,?_,Nd (.refl M) (by rw [Mh];exact qt),by rw [di];exact inv.defers,M6,inv.le⟩
   rw [show ca tr (bo s0) (iQ L i) ops.size=ca tr (bo s0) L ops.size from funext fun id=>MD id (P5 id)]
   exact inv.rel
  rcases L8 with ⟨b,hb,MC⟩|⟨hb,he⟩
  ·have hy:yielded ops a.tmps j=some b:=sY (M:=M) (t:=x.t) OH hb
   rcases MC with ⟨rfl,e0,he,h0⟩|⟨ME,he⟩
   ·have:TC x.o (yielded ops a.tmps)=true:=by simp [TC,hg,hy]
    rw [if_pos this]
    exact PW he h0 rr
   ·exact skip he (by simp [TC,hg,hy,ME])
  ·have hy:yielded ops a.tmps j=none:=oV (M:=M) (t:=x.t) OH hb
   exact skip he (by simp [TC,hg,hy])
theorem nZ {LG:Array Bool} (hl:LG.size=ops.size) (i:Nat):i∈Region.ready .any ops LG↔i<ops.size∧LG.getD i false=false∧Al ops (fun j=>LG.getD j false) i:=by
 unfold Region.ready
 rw [List.mem_filter,List.mem_range]
 constructor
 ·rintro ⟨h1,h2⟩
  have ho:ops[i]? =some ops[i]:=by simp [h1]
  rw [ho] at h2
  simp only [TY,Ty,SG,TE,Array.all_eq_true_iff_forall_mem] at h2
  refine ⟨h1,?_,?_⟩
  ·have:=h2.1
   rw [Tc] at this ⊢
   cases e:LG[i]? with
   |none=>rfl
   |some b=>rw [e] at this;exact this
  ·intro o QY e he hb
   rw [ho] at QY
   obtain rfl:=SE QY
   have:=h2.2 e (by simpa using he)
   rw [hb] at this
   simpa using this
 ·rintro ⟨h1,h2,h3⟩
  refine ⟨h1,?_⟩
  have ho:ops[i]? =some ops[i]:=by simp [h1]
  rw [ho]
  simp only [TY,Ty,SG,TE,Array.all_eq_true_iff_forall_mem]
  refine ⟨?_,fun e he=> ?_⟩
  ·rw [Tc] at h2 ⊢
   have:LG[i]? =some LG[i]:=by simp [hl,h1]
   rw [this] at h2 ⊢
   exact h2
  ·cases hb:Region.binds .any e with
   |false=>rfl
   |true=>
    have:=h3 _ ho e (by simpa using he) hb
    simpa using this
theorem FC (Pt:Trace P ops ops.toList t0 s0 tr tn sn) (hd:mL ops ((tr.map Tr.fp).reverse++ [])=true) {Q:Exit→Act→World→Prop}
  (hq:∀M' LB w' a',M0.Le M'→M'.upto sn.length→bw w0 M' LB (bo sn) w'→bS M' tn a'.tmps→a'.defers=df→Q .normal a' w') (rr:Option Nat):
  ∀(fuel:Nat) (LG:Array Bool) (M:MM) (own:Nat→Option Nat) (w:World) (a:Act),LG.size=ops.size→LG.toList.count false≤fuel→Hy df P ops t0 s0 tr w0 M0 (fun j=>LG.getD j false) M own w a→wpAnyIn (FW rr) 0 P .any ops Q fuel LG a w:=by
 obtain ⟨hlen,hedge,_⟩:=rE hd
 obtain ⟨Ni,hT,hS⟩:=rF Pt
 have fin:∀ {LG:Array Bool} {M:MM} {own:Nat→Option Nat} {w:World} {a:Act},(∀j,j<ops.size→LG.getD j false=true)→Hy df P ops t0 s0 tr w0 M0 (fun j=>LG.getD j false) M own w a→Q .normal a w:=by
  intro LG M own w a Oj inv
  have e1:e7 tr t0 (fun j=>LG.getD j false) ops.size=tn:=by
   rw [← hT,hlen]
   apply List.ext_getElem?
   intro k
   exact jy tr t0 ops.size (fun j x hj _ _=>Oj j hj)
  have e2:ca tr (bo s0) (fun j=>LG.getD j false) ops.size=bo sn:=by
   rw [← hS,hlen]
   funext id
   exact iy tr (bo s0) ops.size (fun j x hj _ _=>Oj j hj)
  have MY:∀id,sn.length≤id→¬(M.box id≠none∨∃v,M.bl id v≠none):=by
   intro id L9 h
   rcases inv.live _ h with q|⟨j,y,q1,q2,q3,q4⟩
   ·have:=iV Pt;omega
   ·have:=(Ni j y q2).2.2.2.1;omega
  refine hq M own w a inv.le ⟨fun id L9=> ?_,fun id v L9=> ?_⟩ (e2▸inv.rel) (e1▸inv.wh) inv.defers
  ·cases e:M.box id with
   |none=>rfl
   |some b=>exact absurd (.inl (by rw [e];simp)) (MY id L9)
  ·cases e:M.bl id v with
   |none=>rfl
   |some b=>exact absurd (.inr ⟨v,by rw [e];simp⟩) (MY id L9)
 have nothing:∀ {LG:Array Bool},LG.size=ops.size→Region.ready .any ops LG= []→∀j,j<ops.size→LG.getD j false=true:=by
  intro LG hl hr j
  induction j using Nat.strongRecOn with
  |_ j ih=>
   intro hj
   cases e:LG.getD j false with
   |true=>rfl
   |false=>
    have:j∈Region.ready .any ops LG:=(nZ hl j).2 ⟨hj,e,fun o ho ed he hb=>ih ed.on (hedge j o ho ed he hb) (by have:=hedge j o ho ed he hb;omega)⟩
    rw [hr] at this
    cases this
 intro fuel
 induction fuel with
 |zero=>
  intro LG M own w a hl hc inv
  have Oj:∀j,j<ops.size→LG.getD j false=true:=by
   intro j hj
   have h0:LG.toList.count false=0:=by omega
   rw [List.count_eq_zero] at h0
   have Qr:j<LG.size:=by omega
   rw [Tc]
   have:LG[j]? =some LG[j]:=by simp [Qr]
   rw [this]
   cases e:LG[j] with
   |true=>simp
   |false=>exact absurd (by rw [← e];simp) h0
  refine ⟨?_,fin Oj inv⟩
  apply List.eq_nil_iff_forall_not_mem.2
  intro i hi
  have:=(nZ hl i).1 hi
  rw [Oj i this.1] at this
  exact absurd this.2.1 (by simp)
 |succ fuel ih=>
  intro LG M own w a hl hc inv
  refine ⟨fun hr=>fin (nothing hl hr) inv,fun i hi=> ?_⟩
  obtain ⟨h1,h2,h3⟩:=(nZ hl i).1 hi
  have hx:tr[i]? =some (tr[i]'(by omega)):=by simp [show i<tr.length by omega]
  refine Bn Pt hd inv hx h2 h3 (fun M' LB w' a' RN=>ih _ M' LB w' a' (by simp [hl]) ?_ ?_) rr
  ·have LN:i<LG.toList.length:=by simp [hl,h1]
   have Nl:LG.toList[i]=false:=by
    rw [Tc] at h2
    have:LG[i]? =some LG[i]:=by simp [hl,h1]
    rw [this] at h2
    simpa using h2
   have MO:(LG.setIfInBounds i true).toList=LG.toList.set i true:=by simp
   rw [MO,List.count_set LN]
   have Md:0<LG.toList.count false:=List.count_pos_iff.2 (by rw [← Nl];simp)
   rw [Nl]
   rw [show (if (false==false)=true then 1 else 0)=1 from rfl,show (if (true==false)=true then 1 else 0)=0 from rfl]
   omega
  ·have:(fun j=>(LG.setIfInBounds i true).getD j false)=iQ (fun j=>LG.getD j false) i:=by
    funext j
    unfold iQ
    simp only [Tc]
    by_cases e:j=i
    ·subst e;simp [hl,h1]
    ·rw [Tu (Ne.symm e),if_neg e]
   rw [this]
   exact RN
theorem wB (Pt:Trace P ops ops.toList t0 s0 tr tn sn) (hd:mL ops ((tr.map Tr.fp).reverse++ [])=true) (hm:P.follows .mixedOrders=true) {M:MM} {own:Nat→Option Nat} {w:World} {a:Act} (id:Nat)
  (hw:bw w0 M own (bo s0) w) (hu:M.upto s0.length) (ht:bS M t0 a.tmps) (RB:a.defers=df) {Q:Exit→Act→World→Prop} (rr:Option Nat)
  (hq:∀M' LB w' a',M.Le M'→M'.upto sn.length→bw w0 M' LB (bo sn) w'→bS M' tn a'.tmps→a'.defers=df→Q .normal a' w'):(Code.region id ops true).wpIn (FW rr) 0 P Q a w:=by
 refine wpIn_region_any hm (FC (w0:=w0) (M0:=M) Pt hd hq rr ops.size _ M own _ a (by simp) ?_ ?_)
 ·rw [Array.toList_replicate];simp
 ·have hL:∀j,(Array.replicate ops.size false).getD j false=false:=fun j=>by
   rw [Tc,Array.getElem?_replicate]
   split<;>rfl
  have eT:∀k,e7 tr t0 (fun j=>(Array.replicate ops.size false).getD j false) k=t0:=by
   intro k
   induction k with
   |zero=>rfl
   |succ k ih=>unfold e7;simp only [hL k];exact ih
  have eS:∀k,ca tr (bo s0) (fun j=>(Array.replicate ops.size false).getD j false) k=bo s0:=by
   intro k
   induction k with
   |zero=>rfl
   |succ k ih=>unfold ca;simp only [hL k];exact ih
  refine ⟨fun j hj=> ?_,?_,?_,RB,?_,.refl M⟩
  ·rw [hL j] at hj;cases hj
  ·rw [eS];exact hw.drew
  ·rw [eT];exact ht
  ·intro id h
   left
   rcases SY id s0.length with q|q
   ·exact q
   ·rcases h with h|⟨v,h⟩
    ·exact absurd (hu.1 id q) h
    ·exact absurd (hu.2 id v q) h
end
end Go.Ev
