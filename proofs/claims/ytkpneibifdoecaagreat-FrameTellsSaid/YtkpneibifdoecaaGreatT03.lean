import Derived.Test.YtkpneibifdoecaaGreatT02
open List renaming length_append→Vu,length_cons→Vx,length_nil→Vy,getD_eq_getElem?_getD→VJ,getElem?_eq_none→VO,length_singleton→V0,getElem?_cons_succ→Wp,mem_cons→Wq,getElem?_set_ne→WJ,getElem?_take→WX
open Option.some renaming inj→VA
open Nat renaming le_refl→VF,lt_or_ge→VS,beq_eq→VZ,zero_add→V9,ble_eq→Wy
open Bool renaming and_eq_true→VG,not_eq_true'→Wn,or_eq_true→WL
open Array renaming getElem?_toList→VX,getD_eq_getD_getElem? →V6,getElem?_eq_none→Wb,length_toList→Wg,getElem?_setIfInBounds_ne→Wm
open Option renaming getD_some→Wk,map_some→WK,bind_some→WO
open Go.Region renaming wanted→Ww
/- Contracts and plain laws that a statement's proof leans on (texts merged:EvN). -/
set_option linter.unusedVariables false
set_option linter.unusedSimpArgs false
namespace Go.Ev
open Go Go.RowKit
section
variable {ρ':Type}
mutual
theorem force_eq:∀(d:D) (K:D→Option ρ'),force d K=K d
  | .undef,K=>by simp [force]
  | .int _ _,K=>by simp [force]
  | .bool _,K=>by simp [force]
  | .str _,K=>by simp [force]
  | .eW,K=>by simp [force]
  | .ptr _ _ _,K=>by simp [force]
  | .cN _ _ _,K=>by simp [force]
  | .bA _,K=>by simp [force]
  | .iD _,K=>by simp [force]
  | .bP _ _ _,K=>by simp [force]
  | .sub _ _ _ _ _,K=>by simp [force]
  | .aq _ _ _,K=>by simp [force]
  | .bw,K=>by simp [force]
  | .fn f a b,K=>by rw [force,er,er]
  | .agg cs,K=>by rw [force,er]
  | .aQ cs,K=>by rw [force,er]
theorem er:∀(l:List D) (K:List D→Option ρ'),fJ l K=K l
  | [],K=>by simp [fJ]
  |d::r,K=>by rw [fJ,force_eq,er]
end
theorem zS:∀(l:List D) (i:Nat) (d:D) (K:List D→Option ρ'),A5 l i d K=K (l.set i d)
 | [],i,d,K=>by simp [A5]
 |a::r,0,d,K=>by simp [A5]
 |a::r,i+1,d,K=>by rw [A5,zS];rfl
theorem gV (t:List D) (dst:Option Nat) (d:D) (K:List D→Option ρ'):j2 t dst d K=K (put t dst d):=by
 cases dst with
 |none=>rfl
 |some i=>simp only [j2,force_eq,zS,put]
theorem fB:∀(l:List Ob) (i:Nat) (d:Ob) (K:List Ob→Option ρ'),gU l i d K=K (l.set i d)
 | [],i,d,K=>by simp [gU]
 |a::r,0,d,K=>by simp [gU]
 |a::r,i+1,d,K=>by rw [gU,fB];rfl
theorem oC:∀(es:List (List D×D)) (K:List (List D×D)→Option ρ'),ng es K=K es
 | [],_=>rfl
 |(n,d)::r,K=>by simp [ng,er,force_eq,oC r]
theorem zb (o:Ob) (K:Ob→Option ρ'):s6 o K=K o:=by cases o<;>simp [s6,er,oC]
theorem oB {ρ':Type} {P:Program} {r:ρ'} {z:Z P} {o:Ob} {k:Z P→Ob→Option ρ'} (h:l8 z o k=some r):∃z',k z' o=some r∧(z'.c→z.c):=by
 unfold l8 at h
 split at h
 ·exact ⟨_,h,id⟩
 ·rw [zb] at h
  exact ⟨_,h,id⟩
theorem lU:∀(l:List Ob) (o:Ob) (K:List Ob→Option ρ'),ky l o K=K (l++ [o])
 | [],o,K=>by simp [ky]
 |a::r,o,K=>by rw [ky,lU];rfl
end
structure Tr where
  o:Oper
  t:List D
  s:List Ob
  e:Option gp
  k:List Nat
  kc:List (Nat×Nat)
def Tr.val (x:Tr):D:=match x.e with|none=> .aQ []|some e=>e.val x.s.length
def Tr.Ah (x:Tr):List D:=put x.t x.o.dst x.val
def Tr.dB (x:Tr):List Ob:=match x.e with
  |some (.dv i _ o' _)=>x.s.set i o'
  |some (.new o' _)=>x.s++ [o']
  |some (.all s' _)=>s'
  |_=>x.s
def Tr.fp (x:Tr):FP:=match x.e with
  |some (.read i _ _)=> .rd i
  |some (.fG i j _)=> .pL i j
  |some (.dv i _ _ _)=> .wr i
  |some (.new _ _)=> .nw x.s.length
  |some (.all _ _)=> .all x.k x.kc
  |_=> .Il
def Tr.Kf (x:Tr):Prop:=match x.e with
  |some (.all s' _)=>(∀i∈x.k,i<x.s.length∧x.s.getD i .dead=s'.getD i .dead)∧∀i j,(i,j)∈x.kc→eu (x.s.getD i .dead) j=eu (s'.getD i .dead) j
  |_=>True
def Tr.Gf (P:Program) (ops:Array Oper) (x:Tr):Prop:=
  match x.o.guard with
  |none=> ∃e,x.e=some e∧gv P x.o (bJ x.t) x.s e
  |some (j,want)=>(∃b,gM ops x.t j= .bool b∧((b=want∧∃e,x.e=some e∧gv P x.o (bJ x.t) x.s e)∨(b≠want∧x.e=none)))∨(gM ops x.t j= .aQ []∧x.e=none)
def Tr.ok (P:Program) (ops:Array Oper) (x:Tr):Prop:=x.Gf P ops∧x.Kf
theorem l4 {s s':List Ob} :∀(l:List (Nat×Ob)) {c:Prop},od s.length l=true→Aq s s' l c→c∧∀i∈jV l,i<s.length∧s.getD i .dead=s'.getD i .dead
 | [],c,_,h=>⟨h,fun i hi=>by simp [jV] at hi⟩
 |(i,o)::r,c,hl,h=>by
  simp only [od] at hl
  split at hl
  ·rename_i Pd
   obtain ⟨⟨⟨h1,h2⟩,h3⟩,h4⟩:=l4 r hl h
   refine ⟨h3,fun j hj=> ?_⟩
   rw [jV,Wq] at hj
   rcases hj with rfl|hj
   ·exact ⟨Nat.lt_of_succ_le (by simpa [Nat.blt,Wy] using Pd),h1.symm.trans h2⟩
   ·exact h4 j hj
  ·cases hl
theorem qv {s s':List Ob} :∀(l:List (Nat×Nat×D)) {c:Prop},EJ s s' l c→c∧∀i j,(i,j)∈lL l→eu (s.getD i .dead) j=eu (s'.getD i .dead) j
 | [],c,h=>⟨h,fun i j hi=>by simp [lL] at hi⟩
 |(i,j,d)::r,c,h=>by
  obtain ⟨⟨⟨h1,h2⟩,h3⟩,h4⟩:=qv r h
  refine ⟨h3,fun a b hj=> ?_⟩
  rw [lL,Wq] at hj
  rcases hj with e|hj
  ·cases e;exact h1.symm.trans h2
  ·exact h4 a b hj
theorem BE {ρ':Type} {P:Program} {r:ρ'} {z:Z P} {s s':List Ob} {k:Z P→List Nat→List (Nat×Nat)→Option ρ'} (h:Ao z s s' k=some r):∃z' l kc,k z' l kc=some r∧(z'.c→z.c∧(∀i∈l,i<s.length∧s.getD i .dead=s'.getD i .dead)∧∀i j,(i,j)∈kc→eu (s.getD i .dead) j=eu (s'.getD i .dead) j):=by
 unfold Ao at h
 split at h
 ·rename_i l rest hz
  obtain ⟨hl,h⟩:=bl h
  refine ⟨_,_,_,h,fun hc=> ?_⟩
  obtain ⟨h1,h2⟩:=l4 l hl hc
  exact ⟨h1,h2,fun i j hi=>by simp at hi⟩
 ·rename_i cs l rest hz
  obtain ⟨hl,h⟩:=bl h
  refine ⟨_,_,_,h,fun hc=> ?_⟩
  obtain ⟨h0,h3⟩:=qv cs hc
  obtain ⟨h1,h2⟩:=l4 l hl h0
  exact ⟨h1,h2,h3⟩
 ·exact ⟨z,[],[],h,fun c=>⟨c,fun i hi=>by simp at hi,fun i j hi=>by simp at hi⟩⟩
def Trace (P:Program) (ops:Array Oper):List Oper→List D→List Ob→List Tr→List D→List Ob→Prop
  | [],t,s,tr,t',s'=>tr= []∧t'=t∧s'=s
  |o::rest,t,s,tr,t',s'=> ∃x xs,tr=x::xs∧x.o=o∧x.t=t∧x.s=s∧x.ok P ops∧Trace P ops rest x.Ah x.dB xs t' s'
theorem eg {ρ':Type} {P:Program} {r:ρ'} {inl:AJ P ρ'} (PJ:iC P inl) {ops:Array Oper} :∀ {rest:List Oper} {t:List D} {s:List Ob} {QD:List FP} {z:Z P} {K:List D→List Ob→List FP→Z P→Option ρ'},jw P inl ops rest t s QD z K=some r→
  ∃tr t' s' z',K t' s' ((tr.map Tr.fp).reverse++QD) z'=some r∧(z'.c→z.c∧Trace P ops rest t s tr t' s')
 | [],t,s,QD,z,K,h=>⟨[],t,s,z,h,fun c=>⟨c,rfl,rfl,rfl⟩⟩
 |o::rest,t,s,QD,z,K,h=>by
  have run:∀ {z:Z P} {want:Prop},(KE P inl o t s z fun z e=>match e with
    | .pure d=>j2 t o.dst d fun t'=>jw P inl ops rest t' s (.Il::QD) z K
    | .read id _ d=>j2 t o.dst d fun t'=>jw P inl ops rest t' s (.rd id::QD) z K
    | .fG id j d=>j2 t o.dst d fun t'=>jw P inl ops rest t' s (.pL id j::QD) z K
    | .dv id _ o' d=>j2 t o.dst d fun t'=>l8 z o' fun z o2=>gU s id o2 fun s'=>jw P inl ops rest t' s' (.wr id::QD) z K
    | .new o' mk=>j2 t o.dst (mk s.length) fun t'=>l8 z o' fun z o2=>ky s o2 fun s'=>jw P inl ops rest t' s' (.nw s.length::QD) z K
    | .all s' d=>j2 t o.dst d fun t'=>Ao z s s' fun z l kc=>jw P inl ops rest t' s' (.all l kc::QD) z K)=some r→
    ∃e l kc tr t' s' z',K t' s' ((tr.map Tr.fp).reverse++((⟨o,t,s,some e,l,kc⟩:Tr).fp::QD)) z'=some r∧(z'.c→z.c∧gv P o (bJ t) s e∧(⟨o,t,s,some e,l,kc⟩:Tr).Kf∧Trace P ops rest (⟨o,t,s,some e,l,kc⟩:Tr).Ah (⟨o,t,s,some e,l,kc⟩:Tr).dB tr t' s'):=by
   intro z want h
   obtain ⟨e,z1,h1,h2⟩:=Gc PJ h
   cases e with
   |pure d=>
    simp only [gV] at h1
    obtain ⟨tr,t',s',z',k1,k2⟩:=eg PJ h1
    exact ⟨.pure d,[],[],tr,t',s',z',k1,fun c=>⟨(h2 (k2 c).1).1,(h2 (k2 c).1).2,trivial,(k2 c).2⟩⟩
   |read i ob d=>
    simp only [gV] at h1
    obtain ⟨tr,t',s',z',k1,k2⟩:=eg PJ h1
    exact ⟨.read i ob d,[],[],tr,t',s',z',k1,fun c=>⟨(h2 (k2 c).1).1,(h2 (k2 c).1).2,trivial,(k2 c).2⟩⟩
   |fG i j d=>
    simp only [gV] at h1
    obtain ⟨tr,t',s',z',k1,k2⟩:=eg PJ h1
    exact ⟨.fG i j d,[],[],tr,t',s',z',k1,fun c=>⟨(h2 (k2 c).1).1,(h2 (k2 c).1).2,trivial,(k2 c).2⟩⟩
   |dv i ob RB d=>
    simp only [gV] at h1
    obtain ⟨z2,h3,h4⟩:=oB h1
    rw [fB] at h3
    obtain ⟨tr,t',s',z',k1,k2⟩:=eg PJ h3
    exact ⟨.dv i ob RB d,[],[],tr,t',s',z',k1,fun c=>⟨(h2 (h4 (k2 c).1)).1,(h2 (h4 (k2 c).1)).2,trivial,(k2 c).2⟩⟩
   |new ob mk=>
    simp only [gV] at h1
    obtain ⟨z2,h3,h4⟩:=oB h1
    rw [lU] at h3
    obtain ⟨tr,t',s',z',k1,k2⟩:=eg PJ h3
    exact ⟨.new ob mk,[],[],tr,t',s',z',k1,fun c=>⟨(h2 (h4 (k2 c).1)).1,(h2 (h4 (k2 c).1)).2,trivial,(k2 c).2⟩⟩
   |all s2 d=>
    simp only [gV] at h1
    obtain ⟨z2,l,kc,h3,h4⟩:=BE h1
    obtain ⟨tr,t',s',z',k1,k2⟩:=eg PJ h3
    exact ⟨.all s2 d,l,kc,tr,t',s',z',k1,fun c=>⟨(h2 (h4 (k2 c).1).1).1,(h2 (h4 (k2 c).1).1).2,(h4 (k2 c).1).2,(k2 c).2⟩⟩
  unfold jw at h
  simp only at h
  split at h
  ·rename_i hg
   obtain ⟨e,l,kc,tr,t',s',z',k1,k2⟩:=run (want:=True) h
   refine ⟨⟨o,t,s,some e,l,kc⟩::tr,t',s',z',by simpa using k1,fun c=>⟨(k2 c).1,_,_,rfl,rfl,rfl,rfl,⟨?_,(k2 c).2.2.1⟩,(k2 c).2.2.2⟩⟩
   simp only [Tr.Gf,hg]
   exact ⟨e,rfl,(k2 c).2.1⟩
  ·rename_i j want hg
   split at h
   ·rename_i b hb
    obtain ⟨z1,⟨h1,h2⟩|⟨h1,h2⟩⟩:=gQ h
    ·obtain ⟨e,l,kc,tr,t',s',z',k1,k2⟩:=run (want:=True) h1
     refine ⟨⟨o,t,s,some e,l,kc⟩::tr,t',s',z',by simpa using k1,fun c=>⟨(h2 (k2 c).1).1,_,_,rfl,rfl,rfl,rfl,⟨?_,(k2 c).2.2.1⟩,(k2 c).2.2.2⟩⟩
     simp only [Tr.Gf,hg]
     exact .inl ⟨b,hb,.inl ⟨by simpa using (h2 (k2 c).1).2,e,rfl,(k2 c).2.1⟩⟩
    ·rw [gV] at h1
     obtain ⟨tr,t',s',z',k1,k2⟩:=eg PJ h1
     refine ⟨⟨o,t,s,none,[],[]⟩::tr,t',s',z',by simpa [Tr.fp] using k1,fun c=>⟨(h2 (k2 c).1).1,_,_,rfl,rfl,rfl,rfl,⟨?_,trivial⟩,(k2 c).2⟩⟩
     simp only [Tr.Gf,hg]
     exact .inl ⟨b,hb,.inr ⟨by simpa using (h2 (k2 c).1).2,trivial⟩⟩
   ·rename_i hb
    rw [gV] at h
    obtain ⟨tr,t',s',z',k1,k2⟩:=eg PJ h
    refine ⟨⟨o,t,s,none,[],[]⟩::tr,t',s',z',by simpa [Tr.fp] using k1,fun c=>⟨(k2 c).1,_,_,rfl,rfl,rfl,rfl,⟨?_,trivial⟩,(k2 c).2⟩⟩
    simp only [Tr.Gf,hg]
    exact .inr ⟨hb,trivial⟩
   ·cases h
theorem gi {M M':MM} (le:M.Le M') {t:List D} {a:Act} (h:bV M t a.tmps) {dst:Option Nat} {d:D} {v:Value} (hr:bz M' d v):bV M' (put t dst d) (a.put dst v).tmps:=by
 cases dst with
 |none=>exact h.mono le
 |some i=>
  refine ⟨by simp [put,Act.put,h.1],fun k d' v' p q=> ?_⟩
  simp only [put,Act.put] at p q
  by_cases e:i=k
  ·subst e
   have Pd:i<t.length:=by
    rcases VS i t.length with x|x
    ·exact x
    ·rw [VO (by simpa using x)] at p;cases p
   have QV:i<a.tmps.size:=by rw [← h.1];exact Pd
   simp [Pd] at p
   simp [QV] at q
   subst p q
   exact hr
  ·rw [WJ e] at p
   rw [Wm e] at q
   exact (h.2 k d' v' p q).mono le
theorem cY (a:Act) (dst:Option Nat) (v:Value):(a.put dst v).defers=a.defers:=by cases dst<;>rfl
theorem qi {M:MM} {ops:Array Oper} {t:List D} {a:Act} {j:Nat} {b:Bool} (h:∀i,(ops[j]?).bind (·.dst)=some i→bz M (t.getD i .undef) (a.tmps.getD i undef)) (hg:gM ops t j= .bool b):yielded ops a.tmps j=some b:=by
 unfold gM at hg
 split at hg
 ·rename_i o ho
  split at hg
  ·rename_i i hi
   have h1:=h i (by simp [ho,hi])
   rw [hg] at h1
   unfold yielded
   simp only [ho,WO,hi]
   generalize hv:a.tmps.getD i undef=v at h1
   cases h1
   rw [V6] at hv
   cases e:a.tmps[i]? with
   |none=>rw [e] at hv;cases hv
   |some u=>rw [e] at hv;simp only [Wk] at hv;subst hv;rfl
  ·cases hg
 ·cases hg
theorem nH {M:MM} :bz M (.aQ []) undef:= .aQ rfl (fun i d v h=>by simp at h)
theorem mG {M:MM} {ops:Array Oper} {t:List D} {a:Act} {j:Nat} (h:∀i,(ops[j]?).bind (·.dst)=some i→bz M (t.getD i .undef) (a.tmps.getD i undef)) (hg:gM ops t j= .aQ []):yielded ops a.tmps j=none:=by
 unfold gM at hg
 split at hg
 ·rename_i o ho
  split at hg
  ·rename_i i hi
   have h1:=h i (by simp [ho,hi])
   rw [hg] at h1
   unfold yielded
   simp only [ho,WO,hi]
   generalize hv:a.tmps.getD i undef=v at h1
   cases h1
   rw [V6] at hv
   cases e:a.tmps[i]? with
   |none=>rfl
   |some u=>rw [e] at hv;simp only [Wk] at hv;subst hv;rfl
  ·cases hg
 ·cases hg
theorem gz {M:MM} {t:List D} {vs:Array Value} (h:bV M t vs) (i:Nat):bz M (t.getD i .undef) (vs.getD i undef):=by
 cases e:t[i]? with
 |none=>rw [VJ,e];exact .undef _
 |some d=>
  obtain ⟨v,hv,hr⟩:=h.get e
  rw [VJ,e,V6,hv]
  exact hr
theorem jq {s:List Ob} {i:Nat} (h:i<s.length) (o:Ob):bE (s.set i o)=dv (bE s) i o:=by
 funext k
 unfold bE dv
 simp only [VJ]
 by_cases e:k=i
 ·subst e;rw [List.getElem?_set_self h];simp
 ·rw [WJ (Ne.symm e),if_neg e]
theorem lR (s:List Ob) (o:Ob):bE (s++ [o])=dv (bE s) s.length o:=by
 funext k
 unfold bE dv
 simp only [VJ,List.getElem?_append]
 by_cases e:k=s.length
 ·subst e;simp
 ·rw [if_neg e]
  split
  ·rfl
  ·rename_i h
   rw [VO (by simp;omega),VO (by omega)]
theorem MM.ie {M M':MM} {n m:Nat} (h:M.upto n) (hb:∀j,m≤j→M'.box j=M.box j) (hh:∀j,m≤j→M'.br j=M.br j) (hm:n≤m):M'.upto m:=
 ⟨fun id hi=>by rw [hb id hi];exact h.1 id (by omega),fun id v hi=>by rw [hh id hi];exact h.2 id v (by omega)⟩
theorem A3 {P:Program} {ops:Array Oper} {x:Tr} (hx:x.ok P ops) {w0:de} {M:MM} {own:Nat→Option Nat} {w:World} {a:Act} (hw:bH w0 M own (bE x.s) w) (hu:M.upto x.s.length) (ht:bV M x.t a.tmps)
  {next:Act→World→Prop} {Q:Exit→Act→World→Prop}
  (hn:∀M' Pc w' a',M.Le M'→M'.upto x.dB.length→bH w0 M' Pc (bE x.dB) w'→bV M' x.Ah a'.tmps→a'.defers=a.defers→next a' w'):
  (if Ww x.o (yielded ops a.tmps) then Fb P x.o a w next Q else next (a.put x.o.dst undef) w)∧x.s.length≤x.dB.length:=by
 obtain ⟨o,t,s,e,l,kc⟩:=x
 replace hx:=hx.1
 replace hu:M.upto s.length:=hu
 replace hw:bH w0 M own (bE s) w:=hw
 replace ht:bV M t a.tmps:=ht
 have Sj:∀ {e0:gp},e=some e0→gv P o (bJ t) s e0→Fb P o a w next Q∧s.length≤(⟨o,t,s,e,l,kc⟩:Tr).dB.length:=by
  intro e0 he h0
  subst he
  have RV:∀y∈o.op.operands,bz M (bJ t y) (a.eval y):=fun y _=>kY ht y
  have PD:M.box s.length=none∧∀v,M.br s.length v=none:=⟨hu.1 _ (VF _),fun v=>hu.2 _ v (VF _)⟩
  cases e0 with
  |pure d=>
   exact ⟨h0 w0 M own _ w a s.length hw RV trivial next Q fun v M' Pc w' le ad Qv hr=>hn M' Pc w' _ le (MM.ie hu (m:=s.length) (fun j _=>by rw [ad.1]) (fun j _=>by rw [ad.2]) (VF _)) Qv (gi le ht hr) (cY _ _ _),VF _⟩
  |fG i j d=>
   exact ⟨h0.2 w0 M own _ w a s.length hw RV h0.1.1 next Q fun v M' Pc w' le ad Qv hr=>hn M' Pc w' _ le (MM.ie hu (m:=s.length) (fun j _=>by rw [ad.1]) (fun j _=>by rw [ad.2]) (VF _)) Qv (gi le ht hr) (cY _ _ _),VF _⟩
  |read i ob d=>
   exact ⟨h0.2 w0 M own _ w a s.length hw RV h0.1.1 next Q fun v M' Pc w' le ad Qv hr=>hn M' Pc w' _ le (MM.ie hu (m:=s.length) (fun j _=>by rw [ad.1]) (fun j _=>by rw [ad.2]) (VF _)) Qv (gi le ht hr) (cY _ _ _),VF _⟩
  |dv i ob RB d=>
   refine ⟨h0.2 w0 M own _ w a s.length hw RV h0.1.1 next Q fun v M' Pc w' le ad Qv hr=>hn M' Pc w' _ le (by
    simp only [Tr.dB,List.length_set]
    exact MM.ie hu (fun j _=>by rw [ad.1]) (fun j hj=>ad.2 j (by have:=h0.1.2;omega)) (VF _)) (by simp only [Tr.dB];rw [jq h0.1.2];exact Qv) (gi le ht hr) (cY _ _ _),by simp [Tr.dB]⟩
  |new ob mk=>
   refine ⟨h0 w0 M own _ w a s.length hw RV PD next Q fun v M' Pc w' le ad Qv hr=>hn M' Pc w' _ le (by
    simp only [Tr.dB,Vu,V0]
    exact MM.ie hu (fun j hj=>ad.1 j (by omega)) (fun j hj=>ad.2 j (by omega)) (by omega)) (by simp only [Tr.dB];rw [lR];exact Qv) (gi le ht hr) (cY _ _ _),by simp [Tr.dB]⟩
  |all s' d=>
   exact ⟨h0.2 w0 M own w a hw hu RV next Q fun v M' Pc w' le up Qv hr=>hn M' Pc w' _ le up Qv (gi le ht hr) (cY _ _ _),h0.1⟩
 unfold Tr.Gf at hx
 simp only at hx
 split at hx
 ·rename_i hg
  obtain ⟨e0,he,h0⟩:=hx
  obtain ⟨k1,k2⟩:=Sj he h0
  refine ⟨?_,k2⟩
  have:Ww o (yielded ops a.tmps)=true:=by simp [Ww,hg]
  rw [if_pos this]
  exact k1
 ·rename_i j want hg
  rcases hx with ⟨b,hb,PS⟩|⟨hb,rfl⟩
  ·have hy:=qi (M:=M) (a:=a) (fun i _=>gz ht i) hb
   rcases PS with ⟨rfl,e0,he,h0⟩|⟨Px,rfl⟩
   ·obtain ⟨k1,k2⟩:=Sj he h0
    refine ⟨?_,k2⟩
    have:Ww o (yielded ops a.tmps)=true:=by simp [Ww,hg,hy]
    rw [if_pos this]
    exact k1
   ·have:Ww o (yielded ops a.tmps)=false:=by simp [Ww,hg,hy,Px]
    rw [this]
    exact ⟨hn M own w _ (.refl M) hu hw (gi (.refl M) ht nH) (cY _ _ _),VF _⟩
  ·have hy:=mG (M:=M) (a:=a) (fun i _=>gz ht i) hb
   have:Ww o (yielded ops a.tmps)=false:=by simp [Ww,hg,hy]
   rw [this]
   exact ⟨hn M own w _ (.refl M) hu hw (gi (.refl M) ht nH) (cY _ _ _),VF _⟩
theorem mz {P:Program} {ops:Array Oper} {w0:de} {Q:Exit→Act→World→Prop} {df:List Deferred} (rr:Option Nat):∀ {rest:List Oper} {t:List D} {s:List Ob} {tr:List Tr} {t':List D} {s':List Ob},Trace P ops rest t s tr t' s'→
  ∀ {M:MM} {own:Nat→Option Nat} {w:World} {a:Act} (k:Nat),ops.toList.drop k=rest→bH w0 M own (bE s) w→M.upto s.length→bV M t a.tmps→a.defers=df→
  (∀M' Pc w' a',M.Le M'→M'.upto s'.length→bH w0 M' Pc (bE s') w'→bV M' t' a'.tmps→a'.defers=df→Q .normal a' w')→wpOpsIn (FW rr) 0 P ops Q (List.range' k rest.length) a w
 | [],t,s,tr,t',s',h,M,own,w,a,k,hk,hw,hu,ht,hd,hq=>by
  obtain ⟨rfl,rfl,rfl⟩:=h
  exact hq M own w a (.refl M) hu hw ht hd
 |o::rest,t,s,tr,t',s',h,M,own,w,a,k,hk,hw,hu,ht,hd,hq=>by
  obtain ⟨x,xs,rfl,rfl,rfl,rfl,Qb,h⟩:=h
  have RG:ops[k]? =some x.o:=by
   rw [← VX]
   have:=congrArg (fun l=>l[0]?) hk
   simpa using this
  have TB:ops.toList.drop (k+1)=rest:=by
   have:=congrArg List.tail hk
   simpa using this
  rw [Vx,List.range'_succ]
  simp only [wpOpsIn,RG]
  have hs:=(A3 (next:=wpOpsIn (FW rr) 0 P ops Q (List.range' (k+1) rest.length)) (Q:=Q) Qb hw hu ht fun M' Pc w' a' le up Qv Tm S8=>mz rr h (k+1) TB Qv up Tm (by rw [S8];exact hd) fun M2 Qy w2 a2 Qw up2 QY ht2 hd2=>hq M2 Qy w2 a2 (le.trans Qw) up2 QY ht2 hd2).1
  split
  ·rename_i Ur
   rw [if_pos Ur] at hs
   exact hs rr
  ·rename_i Ur
   rw [if_neg Ur] at hs
   exact ⟨fun _ _=>trivial,hs⟩
theorem kR {P:Program} {ops:Array Oper} :∀ {rest:List Oper} {t:List D} {s:List Ob} {tr:List Tr} {t':List D} {s':List Ob},Trace P ops rest t s tr t' s'→∀(i:Nat) (x:Tr),tr[i]? =some x→rest[i]? =some x.o∧x.ok P ops
 | [],_,_,_,_,_,h,i,x,hx=>by obtain ⟨rfl,_⟩:=h;simp at hx
 |o::rest,_,_,_,_,_,h,i,x,hx=>by
  obtain ⟨y,xs,rfl,ho,_,_,Qb,h⟩:=h
  cases i with
  |zero=>simp at hx;subst hx;exact ⟨by simp [ho],Qb⟩
  |succ i=>exact kR h i x (by simpa using hx)
theorem p9 {P:Program} {ops:Array Oper} {x:Tr} (h:x.ok P ops):x.s.length≤x.dB.length:=by
 obtain ⟨o,t,s,e,l,kc⟩:=x
 replace h:=h.1
 have Sj:∀ {e0:gp},e=some e0→gv P o (bJ t) s e0→s.length≤(⟨o,t,s,e,l,kc⟩:Tr).dB.length:=by
  intro e0 he h0
  subst he
  cases e0 with
  |pure d=>exact VF _
  |read i ob d=>exact VF _
  |fG i j d=>exact VF _
  |dv i ob RB d=>simp [Tr.dB]
  |new ob mk=>simp [Tr.dB]
  |all s' d=>exact h0.1
 unfold Tr.Gf at h
 simp only at h
 split at h
 ·obtain ⟨e0,he,h0⟩:=h;exact Sj he h0
 ·obtain ⟨b,_,⟨_,e0,he,h0⟩|⟨_,rfl⟩⟩|⟨_,rfl⟩:=h
  ·exact Sj he h0
  ·exact VF _
  ·exact VF _
theorem gD {P:Program} {ops:Array Oper} :∀ {rest:List Oper} {t:List D} {s:List Ob} {tr:List Tr} {t':List D} {s':List Ob},Trace P ops rest t s tr t' s'→s.length≤s'.length
 | [],_,_,_,_,_,h=>by obtain ⟨_,_,rfl⟩:=h;exact VF _
 |o::rest,_,_,_,_,_,h=>by
  obtain ⟨x,xs,rfl,_,_,rfl,Qb,h⟩:=h
  exact Nat.le_trans (p9 Qb) (gD h)
theorem kI (acc:List Nat):∀(es:List Edge) (m k:Nat),(es.foldl (fun m e=>match Region.binds .any e with|true=>m|||(1<<<e.on)|||acc.getD e.on 0|false=>m) m).testBit k=true→
  m.testBit k=true∨∃e∈es,Region.binds .any e=true∧(k=e.on∨(acc.getD e.on 0).testBit k=true)
 | [],m,k,h=> .inl h
 |e::es,m,k,h=>by
  rw [List.foldl_cons] at h
  rcases kI acc es _ k h with h|⟨e',he,h1,h2⟩
  ·split at h
   ·rename_i hb
    rw [Nat.testBit_or,Nat.testBit_or,WL,WL] at h
    rcases h with (h|h)|h
    ·exact .inl h
    ·refine .inr ⟨e,by simp,hb,.inl ?_⟩
     rw [Nat.one_shiftLeft,Nat.testBit_two_pow] at h
     exact (of_decide_eq_true h).symm
    ·exact .inr ⟨e,by simp,hb,.inr h⟩
   ·exact .inl h
  ·exact .inr ⟨e',by simp [he],h1,h2⟩
def te (o:Oper) (acc:List Nat):Nat:=o.after.toList.foldl (fun m e=>match Region.binds .any e with|true=>m|||(1<<<e.on)|||acc.getD e.on 0|false=>m) 0
theorem gl:∀(rest:List Oper) (acc:List Nat),(fq rest acc).length=acc.length+rest.length∧(fq rest acc).take acc.length=acc∧
  ∀(j:Nat) (o:Oper),rest[j]? =some o→(fq rest acc)[acc.length+j]? =some (te o ((fq rest acc).take (acc.length+j)))
 | [],acc=>⟨by simp [fq],by simp [fq],fun j o h=>by simp at h⟩
 |o::rest,acc=>by
  have ih:=gl rest (acc++ [te o acc])
  have hun:fq (o::rest) acc=fq rest (acc++ [te o acc]):=rfl
  rw [hun]
  obtain ⟨h1,h2,h3⟩:=ih
  have T1:(fq rest (acc++ [te o acc])).take acc.length=acc:=by
   have:=congrArg (fun l=>l.take acc.length) h2
   simp only [Vu,V0,List.take_take] at this
   rw [show min acc.length (acc.length+1)=acc.length by omega] at this
   rw [this]
   simp
  refine ⟨by rw [h1];simp;omega,T1,fun j q hq=> ?_⟩
  cases j with
  |zero=>
   simp at hq
   subst hq
   rw [Nat.add_zero,T1]
   have:=congrArg (fun l=>l[acc.length]?) h2
   simp only [Vu,V0,WX] at this
   rw [if_pos (by omega)] at this
   rw [this]
   simp
  |succ j=>
   have:=h3 j q (by simpa using hq)
   simp only [Vu,V0] at this
   rw [show acc.length+1+j=acc.length+(j+1) by omega] at this
   exact this
def z8 (ops:Array Oper) (L:Nat→Bool) (j:Nat):Prop:= ∀o,ops[j]? =some o→∀e∈o.after.toList,Region.binds .any e=true→L e.on=true
def closed (ops:Array Oper) (L:Nat→Bool):Prop:= ∀i,L i=true→z8 ops L i
theorem reach {ops:Array Oper} {L:Nat→Bool} (hc:closed ops L):∀(n j:Nat),j≤n→z8 ops L j→∀k,((fq ops.toList []).getD j 0).testBit k=true→L k=true:=by
 intro n
 induction n with
 |zero=>
  intro j hj hp k hk
  obtain rfl:j=0:=by omega
  cases ho:ops[0]? with
  |none=>
   have hlen:=(gl ops.toList []).1
   have:(fq ops.toList [])[0]? =none:=by
    rw [List.getElem?_eq_none_iff,hlen,Vy,V9,Wg]
    exact Array.getElem?_eq_none_iff.1 ho
   rw [VJ,this] at hk
   simp at hk
  |some o=>
   have h:=(gl ops.toList []).2.2 0 o (by rw [VX];exact ho)
   simp only [Vy,V9,List.take_zero] at h
   rw [VJ,h,Wk] at hk
   rcases kI _ _ _ _ hk with h0|⟨e,he,h1,h2⟩
   ·simp at h0
   ·rcases h2 with rfl|h2
    ·exact hp o ho e he h1
    ·simp at h2
 |succ n ih=>
  intro j hj hp k hk
  cases ho:ops[j]? with
  |none=>
   have hlen:=(gl ops.toList []).1
   have:(fq ops.toList [])[j]? =none:=by
    rw [List.getElem?_eq_none_iff,hlen,Vy,V9,Wg]
    exact Array.getElem?_eq_none_iff.1 ho
   rw [VJ,this] at hk
   simp at hk
  |some o=>
   have h:=(gl ops.toList []).2.2 j o (by rw [VX];exact ho)
   simp only [Vy,V9] at h
   rw [VJ,h,Wk] at hk
   rcases kI _ _ _ _ hk with h0|⟨e,he,h1,h2⟩
   ·simp at h0
   ·have hL:=hp o ho e he h1
    rcases h2 with rfl|h2
    ·exact hL
    ·rw [VJ,WX] at h2
     split at h2
     ·rename_i Pd
      refine ih e.on (by omega) (hc _ hL) k ?_
      rw [VJ]
      exact h2
     ·simp at h2
section
variable (tr:List Tr) (t0:List D) (σ0:Nat→Ob)
def cJ (x:Tr) (id:Nat):Prop:=match x.e with
  |some (.dv i _ _ _)=>id=i
  |some (.new _ _)=>id=x.s.length
  |some (.all _ _)=>id∉x.k
  |_=>False
def dY (L:Nat→Bool):Nat→List D
  |0=>t0
  |k+1=>match L k,tr[k]? with
    |true,some x=>put (dY L k) x.o.dst x.val
    |_,_=>dY L k
def cb (L:Nat→Bool):Nat→Nat→Ob
  |0=>σ0
  |k+1=>match L k,tr[k]? with
    |true,some x=>match x.e with
      |some (.dv i _ o' _)=>dv (cb L k) i o'
      |some (.new o' _)=>dv (cb L k) x.s.length o'
      |some (.all s' _)=>fun id=>if id∈x.k then cb L k id else bE s' id
      |_=>cb L k
    |_,_=>cb L k
theorem fY {t:List D} {dst:Option Nat} {d:D} {i:Nat} (h:dst≠some i):(put t dst d)[i]? =t[i]? :=by
 cases dst with
 |none=>rfl
 |some j=>exact WJ (fun e=>h (by rw [e]))
theorem yd (t:List D) (dst:Option Nat) (d:D):(put t dst d).length=t.length:=by cases dst<;>simp [put]
theorem eJ (L:Nat→Bool):∀k,(dY tr t0 L k).length=t0.length
 |0=>rfl
 |k+1=>by
  unfold dY
  split
  ·rw [yd,eJ L k]
  ·exact eJ L k
theorem g7 {L L':Nat→Bool} {i:Nat} :∀k,(∀j x,j<k→tr[j]? =some x→x.o.dst=some i→L j=L' j)→(dY tr t0 L k)[i]? =(dY tr t0 L' k)[i]?
 |0,_=>rfl
 |k+1,h=>by
  have ih:=g7 (L:=L) (L':=L') (i:=i) k (fun j x hj=>h j x (by omega))
  have hlen:(dY tr t0 L k).length=(dY tr t0 L' k).length:=by rw [eJ,eJ]
  unfold dY
  cases hx:tr[k]? with
  |none=>cases L k<;>cases L' k<;>exact ih
  |some x=>
   by_cases hd:x.o.dst=some i
   ·rw [h k x (by omega) hx hd]
    cases L' k
    ·exact ih
    ·simp only [hd,put,List.getElem?_set,hlen,if_true]
   ·cases L k<;>cases L' k<;>simp only []<;>first|exact ih|(rw [fY hd];exact ih)|(rw [fY hd,fY hd];exact ih)
theorem kL {L:Nat→Bool} {i:Nat} (m:Nat):∀k,m≤k→(∀j x,m≤j→j<k→tr[j]? =some x→x.o.dst=some i→L j=false)→(dY tr t0 L k)[i]? =(dY tr t0 L m)[i]?
 |0,hm,_=>by
  have e:m=0:=by omega
  subst e
  rfl
 |k+1,hm,h=>by
  by_cases e:m=k+1
  ·subst e;rfl
  ·have ih:=kL m k (by omega) (fun j x h1 h2=>h j x h1 (by omega))
   conv=>lhs;unfold dY
   cases hx:tr[k]? with
   |none=>cases L k<;>exact ih
   |some x=>
    by_cases hd:x.o.dst=some i
    ·rw [h k x (by omega) (by omega) hx hd];exact ih
    ·cases L k
     ·exact ih
     ·simp only [];rw [fY hd];exact ih
theorem gk {L L':Nat→Bool} {id:Nat} :∀k,(∀j x,j<k→tr[j]? =some x→cJ x id→L j=L' j)→cb tr σ0 L k id=cb tr σ0 L' k id
 |0,_=>rfl
 |k+1,h=>by
  have ih:=gk (L:=L) (L':=L') (id:=id) k (fun j x hj=>h j x (by omega))
  unfold cb
  cases hx:tr[k]? with
  |none=>cases L k<;>cases L' k<;>exact ih
  |some x=>
   have hk:=h k x (by omega) hx
   unfold cJ at hk
   cases he:x.e with
   |none=>cases L k<;>cases L' k<;>simp only [he]<;>exact ih
   |some e=>
    rw [he] at hk
    cases e with
    |pure d=>cases L k<;>cases L' k<;>simp only [he]<;>exact ih
    |read i o d=>cases L k<;>cases L' k<;>simp only [he]<;>exact ih
    |fG i j d=>cases L k<;>cases L' k<;>simp only [he]<;>exact ih
    |dv i o o' d=>
     by_cases e1:id=i
     ·rw [hk e1];cases L' k<;>simp only [he,dv,e1,if_true]<;>(try exact e1▸ih)
     ·cases L k<;>cases L' k<;>simp only [he,dv,e1,if_false]<;>exact ih
    |new o' mk=>
     by_cases e1:id=x.s.length
     ·rw [hk e1];cases L' k<;>simp only [he,dv,e1,if_true]<;>(try exact e1▸ih)
     ·cases L k<;>cases L' k<;>simp only [he,dv,e1,if_false]<;>exact ih
    |all s' d=>
     by_cases e1:id∈x.k
     ·cases L k<;>cases L' k<;>simp only [he,e1,if_true]<;>exact ih
     ·rw [hk e1];cases L' k<;>simp only [he,e1,if_false];exact ih
theorem gO {L:Nat→Bool} {id:Nat} (m:Nat):∀k,m≤k→(∀j x,m≤j→j<k→tr[j]? =some x→cJ x id→L j=false)→cb tr σ0 L k id=cb tr σ0 L m id
 |0,hm,_=>by
  have e:m=0:=by omega
  subst e
  rfl
 |k+1,hm,h=>by
  by_cases e:m=k+1
  ·subst e;rfl
  ·have ih:=gO m k (by omega) (fun j x h1 h2=>h j x h1 (by omega))
   conv=>lhs;unfold cb
   cases hx:tr[k]? with
   |none=>cases L k<;>exact ih
   |some x=>
    have hk:=h k x (by omega) (by omega) hx
    unfold cJ at hk
    cases hL:L k with
    |false=>exact ih
    |true=>
     rw [hL] at hk
     simp only []
     cases he:x.e with
     |none=>exact ih
     |some e=>
      rw [he] at hk
      cases e with
      |pure d=>exact ih
      |read i o d=>exact ih
      |fG i j d=>exact ih
      |dv i o o' d=>
       by_cases e1:id=i
       ·exact absurd (hk e1) (by simp)
       ·simp only [dv,e1,if_false];exact ih
      |new o' mk=>
       by_cases e1:id=x.s.length
       ·exact absurd (hk e1) (by simp)
       ·simp only [dv,e1,if_false];exact ih
      |all s' d=>
       by_cases e1:id∈x.k
       ·simp only [e1,if_true];exact ih
       ·exact absurd (hk e1) (by simp)
end
theorem oO {P:Program} {ops:Array Oper} :∀ {rest:List Oper} {t:List D} {s:List Ob} {tr:List Tr} {t':List D} {s':List Ob},Trace P ops rest t s tr t' s'→
  (∀(i:Nat) (x:Tr),tr[i]? =some x→dY tr t (fun _=>true) i=x.t∧cb tr (bE s) (fun _=>true) i=bE x.s∧s.length≤x.s.length∧x.dB.length≤s'.length∧
   (∀(j:Nat) (y:Tr),j<i→tr[j]? =some y→y.dB.length≤x.s.length)∧(∀id,s.length≤id→id<x.s.length→∃j y,j<i∧tr[j]? =some y∧y.s.length≤id∧id<y.dB.length))∧
  dY tr t (fun _=>true) tr.length=t'∧cb tr (bE s) (fun _=>true) tr.length=bE s'
 | [],t,s,tr,t',s',h=>by
  obtain ⟨rfl,rfl,rfl⟩:=h
  exact ⟨fun i x hx=>by simp at hx,rfl,rfl⟩
 |o::rest,t,s,tr,t',s',h=>by
  obtain ⟨x,xs,rfl,rfl,rfl,rfl,Qb,h⟩:=h
  obtain ⟨ih,ih1,ih2⟩:=oO h
  have U5:=p9 Qb
  have RQ:∀k,dY (x::xs) x.t (fun _=>true) (k+1)=dY xs x.Ah (fun _=>true) k:=by
   intro k
   induction k with
   |zero=>rfl
   |succ k ihk=>
    conv=>lhs;unfold dY
    conv=>rhs;unfold dY
    simp only [Wp]
    cases xs[k]? with
    |none=>exact ihk
    |some y=>simp only [];rw [ihk]
  have Q9:cb (x::xs) (bE x.s) (fun _=>true) 1=bE x.dB:=by
   unfold cb cb
   simp only [List.getElem?_cons_zero]
   unfold Tr.dB
   cases he:x.e with
   |none=>rfl
   |some e=>
    cases e with
    |pure d=>rfl
    |read i o d=>rfl
    |fG i j d=>rfl
    |dv i ob RB d=>
     have:i<x.s.length:=by
      replace Qb:=Qb.1
      unfold Tr.Gf at Qb
      rw [he] at Qb
      split at Qb
      ·obtain ⟨e0,h0,h1⟩:=Qb;cases h0;exact h1.1.2
      ·obtain ⟨b,_,⟨_,e0,h0,h1⟩|⟨_,h0⟩⟩|⟨_,h0⟩:=Qb
       ·cases h0;exact h1.1.2
       ·cases h0
       ·cases h0
     simp only []
     rw [jq this]
    |new ob mk=>simp only [];rw [lR]
    |all s2 d=>
     have hk:=Qb.2
     unfold Tr.Kf at hk
     rw [he] at hk
     simp only []
     funext id
     by_cases e1:id∈x.k
     ·rw [if_pos e1];exact (hk.1 id e1).2
     ·rw [if_neg e1]
  have R2:∀k,cb (x::xs) (bE x.s) (fun _=>true) (k+1)=cb xs (bE x.dB) (fun _=>true) k:=by
   intro k
   induction k with
   |zero=>exact Q9
   |succ k ihk=>
    conv=>lhs;unfold cb
    conv=>rhs;unfold cb
    simp only [Wp]
    cases xs[k]? with
    |none=>exact ihk
    |some y=>simp only [];rw [ihk]
  refine ⟨fun i y hy=> ?_,by rw [Vx,RQ];exact ih1,by rw [Vx,R2];exact ih2⟩
  cases i with
  |zero=>
   simp at hy
   subst hy
   exact ⟨rfl,rfl,VF _,gD h,fun j y hj=>by omega,fun id h1 h2=>by omega⟩
  |succ i=>
   obtain ⟨a1,a2,a3,a4,a5,a6⟩:=ih i y (by simpa using hy)
   refine ⟨by rw [RQ];exact a1,by rw [R2];exact a2,by omega,a4,?_,?_⟩
   ·intro j z hj hz
    cases j with
    |zero=>simp at hz;subst hz;exact a3
    |succ j=>exact a5 j z (by omega) (by simpa using hz)
   ·intro id h1 h2
    rcases VS id x.dB.length with q|q
    ·exact ⟨0,x,by omega,rfl,h1,q⟩
    ·obtain ⟨j,z,b1,b2,b3,b4⟩:=a6 id q h2
     exact ⟨j+1,z,by omega,by simpa using b2,b3,b4⟩
theorem oM {ops:Array Oper} {tr:List Tr} (h:kK ops ((tr.map Tr.fp).reverse++ [])=true):
  tr.length=ops.size∧(∀(j:Nat) (o:Oper),ops[j]? =some o→∀e∈o.after.toList,Region.binds .any e=true→e.on<j)∧
  ∀(i j:Nat) (x y:Tr) (ox oy:Oper),i<j→tr[i]? =some x→tr[j]? =some y→ops[i]? =some ox→ops[j]? =some oy→((fq ops.toList []).getD j 0).testBit i=true∨(share ops ox oy=false∧eN x.fp y.fp=false):=by
 unfold kK at h
 simp only [List.append_nil,List.reverse_reverse,List.length_map,Wg,VG,VZ,List.all_eq_true,List.mem_range] at h
 obtain ⟨hl,h⟩:=h
 refine ⟨hl,?_,?_⟩
 ·intro j o ho e he hb
  have hj:j<ops.size:=by
   rcases VS j ops.size with q|q
   ·exact q
   ·simp [Wb q] at ho
  have:=(h j hj).1
  rw [VX,ho] at this
  simp only [Array.all_eq_true_iff_forall_mem] at this
  have h1:=this e (by simpa using he)
  rw [hb] at h1
  simp only [Bool.not_true,Bool.false_or] at h1
  exact Nat.lt_of_succ_le (by simpa [Nat.blt,Wy] using h1)
 ·intro i j x y ox oy hij hx hy hox Vp
  have hj:j<ops.size:=by
   rcases VS j ops.size with q|q
   ·exact q
   ·simp [Wb q] at Vp
  have:=(h j hj).2 i hij
  rw [VX,VX,hox,Vp] at this
  simp only [VJ,List.getElem?_map,hx,hy,WK,Wk,WL,VG,Wn] at this
  rw [VJ]
  exact this
theorem jT {i:Nat} :∀ {l:List Nat},gn i l=true↔i∈l
 | []=>by simp [gn]
 |a::r=>by
  unfold gn
  split
  ·rename_i h;rw [VZ] at h;subst h;simp
  ·rename_i h
   rw [jT]
   have:a≠i:=fun e=>by subst e;simp at h
   simp [Ne.symm this]
theorem wb {i j:Nat} :∀ {l:List (Nat×Nat)},yL i j l=true↔(i,j)∈l
 | []=>by simp [yL]
 |(a,b)::r=>by
  unfold yL
  split
  ·rename_i h1 h2
   rw [VZ] at h1 h2
   subst h1 h2
   simp
  ·rename_i h
   rw [wb,Wq]
   refine ⟨.inr,fun q=> ?_⟩
   rcases q with e|q
   ·cases e
    exact (h (Nat.beq_refl i) (Nat.beq_refl j)).elim
   ·exact q
theorem fA {z:Tr} {id:Nat} (h:cJ z id):z.fp= .wr id∨z.fp= .nw id∨∃l kc,z.fp= .all l kc∧id∉l:=by
 unfold cJ at h
 unfold Tr.fp
 cases he:z.e with
 |none=>rw [he] at h;exact h.elim
 |some e=>
  rw [he] at h
  cases e with
  |pure d=>exact h.elim
  |read i o d=>exact h.elim
  |fG i j d=>exact h.elim
  |dv i o o' d=>subst h;exact .inl rfl
  |new o mk=>subst h;exact .inr (.inl rfl)
  |all s d=>exact .inr (.inr ⟨z.k,z.kc,rfl,h⟩)
theorem Ar {z:Tr} {id:Nat} (h1:z.s.length≤id) (h2:id<z.dB.length):z.fp= .nw id∨∃l kc,z.fp= .all l kc:=by
 unfold Tr.dB at h2
 unfold Tr.fp
 cases he:z.e with
 |none=>rw [he] at h2;simp at h2;omega
 |some e=>
  rw [he] at h2
  cases e with
  |pure d=>simp at h2;omega
  |read i o d=>simp at h2;omega
  |fG i j d=>simp at h2;omega
  |dv i o o' d=>simp at h2;omega
  |new o mk=>
   simp at h2
   have e:id=z.s.length:=by omega
   subst e
   exact .inl rfl
  |all s d=>exact .inr ⟨_,_,rfl⟩
section
variable {P:Program} {ops:Array Oper} {t0:List D} {s0:List Ob} {tr:List Tr} {tn:List D} {sn:List Ob} {w0:de} {M0:MM} {df:List Deferred}
structure GQ (df:List Deferred) (P:Program) (ops:Array Oper) (t0:List D) (s0:List Ob) (tr:List Tr) (w0:de) (M0:MM) (L:Nat→Bool) (M:MM) (own:Nat→Option Nat) (w:World) (a:Act):Prop where
  cl:closed ops L
  rel:bH w0 M own (cb tr (bE s0) L ops.size) w
  tR:bV M (dY tr t0 L ops.size) a.tmps
  defers:a.defers=df
  live:∀id,(M.box id≠none∨∃v,M.br id v≠none)→id<s0.length∨∃(j:Nat) (y:Tr),L j=true∧tr[j]? =some y∧y.s.length≤id∧id<y.dB.length
  le:M0.Le M
def gx (L:Nat→Bool) (i:Nat):Nat→Bool:=fun j=>if j=i then true else L j
theorem A4 (R8:Trace P ops ops.toList t0 s0 tr tn sn) (hd:kK ops ((tr.map Tr.fp).reverse++ [])=true) {L:Nat→Bool} {M:MM} {own:Nat→Option Nat} {w:World} {a:Act} (inv:GQ df P ops t0 s0 tr w0 M0 L M own w a)
  {i:Nat} {x:Tr} (hx:tr[i]? =some x) (S2:L i=false) (hp:z8 ops L i) {Q:Exit→Act→World→Prop} {K:Act→World→Prop}
  (hK:∀M' Pc w' a',GQ df P ops t0 s0 tr w0 M0 (gx L i) M' Pc w' a'→K a' w'):∀rr,wpOpIn (FW rr) 0 P ops Q i K a w:=by
 intro rr
 obtain ⟨hlen,hedge,hpair⟩:=oM hd
 obtain ⟨PV,_,_⟩:=oO R8
 obtain ⟨Qz,Qb⟩:=kR R8 i x hx
 have RG:ops[i]? =some x.o:=by rw [← VX];exact Qz
 have RV:∀ {j:Nat} {y:Tr},tr[j]? =some y→ops[j]? =some y.o:=fun {j y} hy=>by rw [← VX];exact (kR R8 j y hy).1
 have PE:i<ops.size:=by
  rcases VS i ops.size with q|q
  ·exact q
  ·simp [Wb q] at RG
 obtain ⟨aT,aS,a3,a4,a5,a6⟩:=PV i x hx
 have before:∀ {j:Nat} {y:Tr},j<i→tr[j]? =some y→(share ops y.o x.o=true∨eN y.fp x.fp=true)→L j=true:=by
  intro j y hj hy hc
  rcases hpair j i y x _ _ hj hy hx (RV hy) RG with h|⟨h1,h2⟩
  ·exact reach inv.cl i i (VF _) hp j h
  ·rcases hc with hc|hc
   ·rw [h1] at hc;cases hc
   ·rw [h2] at hc;cases hc
 have after:∀ {j:Nat} {y:Tr},i<j→tr[j]? =some y→(share ops x.o y.o=true∨eN x.fp y.fp=true)→L j=false:=by
  intro j y hj hy hc
  rcases hpair i j x y _ _ hj hx hy RG (RV hy) with h|⟨h1,h2⟩
  ·cases e:L j with
   |false=>rfl
   |true=>
    have:=reach inv.cl j j (VF _) (inv.cl j e) i h
    rw [S2] at this;cases this
  ·rcases hc with hc|hc
   ·rw [h1] at hc;cases hc
   ·rw [h2] at hc;cases hc
 have QP:∀ {f g:FP} {id:Nat},(f= .wr id∨f= .nw id∨∃l kc,f= .all l kc∧id∉l)→(g= .rd id∨g= .wr id∨g= .nw id∨∃l kc,g= .all l kc)→eN f g=true:=by
  intro f g id h1 h2
  rcases h1 with rfl|rfl|⟨l,kc,rfl,hl⟩<;>rcases h2 with rfl|rfl|rfl|⟨l',kc',rfl⟩<;>simp [eN]
  cases e:gn id l
  ·rfl
  ·exact absurd (jT.1 e) hl
 have QX:∀ {f g:FP} {id:Nat},(f= .rd id∨f= .wr id∨f= .nw id∨∃l kc,f= .all l kc)→(g= .wr id∨g= .nw id∨∃l kc,g= .all l kc∧id∉l)→eN f g=true:=by
  intro f g id h1 h2
  rcases h1 with rfl|rfl|rfl|⟨l',kc',rfl⟩<;>rcases h2 with rfl|rfl|⟨l,kc,rfl,hl⟩<;>simp [eN]
  cases e:gn id l
  ·rfl
  ·exact absurd (jT.1 e) hl
 have F1:∀y,y∈nZ ops x.o→(dY tr t0 L ops.size)[y]? =x.t[y]? :=by
  intro y hy
  rw [kL tr t0 (L:=L) (i:=y) i ops.size (by omega) (fun j z h1 h2 hz QM=>by
   rcases Nat.lt_or_eq_of_le h1 with h|h
   ·refine after h hz (.inl ?_)
    unfold share
    rw [QM]
    simp only [WL]
    right
    simpa using hy
   ·rw [← h];exact S2)]
  rw [g7 tr t0 (L:=L) (L':=fun _=>true) (i:=y) i (fun j z hj hz QM=>by
   refine before hj hz (.inl ?_)
   unfold share
   rw [QM]
   simp only [WL]
   left;left
   simpa using hy),aT]
 have Q1:∀y∈x.o.op.operands,bJ (dY tr t0 L ops.size) y=bJ x.t y:=by
  intro y hy
  cases y with
  |tmp k=>
   have:k∈nZ ops x.o:=by
    unfold nZ CT
    refine List.mem_append.2 (.inl (List.mem_filterMap.2 ⟨.tmp k,by simpa using hy,rfl⟩))
   show List.getD _ _ _=List.getD _ _ _
   rw [VJ,VJ,F1 k this]
  |const v=>rfl
  |global g=>rfl
  |func f=>rfl
 have Pm:∀y∈x.o.op.operands,bz M (bJ x.t y) (a.eval y):=fun y hy=>by rw [← Q1 y hy];exact kY inv.tR y
 have F2:∀id,(x.fp= .rd id∨x.fp= .wr id∨x.fp= .nw id∨∃l kc,x.fp= .all l kc)→cb tr (bE s0) L ops.size id=bE x.s id:=by
  intro id QU
  rw [gO tr (bE s0) (L:=L) (id:=id) i ops.size (by omega) (fun j z h1 h2 hz ht=>by
   rcases Nat.lt_or_eq_of_le h1 with h|h
   ·exact after h hz (.inr (QX QU (fA ht)))
   ·rw [← h];exact S2)]
  rw [gk tr (bE s0) (L:=L) (L':=fun _=>true) (id:=id) i (fun j z hj hz ht=>before hj hz (.inr (QP (fA ht) QU))),aS]
 have order:∀ {id a b:Nat} {y z:Tr},a<b→tr[a]? =some y→tr[b]? =some z→cJ y id→cJ z id→L b=true→L a=true:=by
  intro id a b y z hab hy hz ty tz hLb
  have hc:eN y.fp z.fp=true:=QP (fA ty) (by
   rcases fA tz with q|q|⟨l,kc,q,_⟩
   ·exact .inr (.inl q)
   ·exact .inr (.inr (.inl q))
   ·exact .inr (.inr (.inr ⟨l,kc,q⟩)))
  rcases hpair a b y z _ _ hab hy hz (RV hy) (RV hz) with h|⟨_,h2⟩
  ·exact reach inv.cl b b (VF _) (inv.cl b hLb) a h
  ·rw [h2] at hc;cases hc
 have F3:∀id j,x.fp= .pL id j→eu (cb tr (bE s0) L ops.size id) j=eu (bE x.s id) j:=by
  intro id j QU
  obtain ⟨m,hm1,T4⟩:∃m,(∀k y,m≤k→tr[k]? =some y→cJ y id→L k=false)∧∀k y,k<m→tr[k]? =some y→cJ y id→L k=true:=by
   have key:∀n,(∀k y,n≤k→tr[k]? =some y→cJ y id→L k=false)→∃m,(∀k y,m≤k→tr[k]? =some y→cJ y id→L k=false)∧∀k y,k<m→tr[k]? =some y→cJ y id→L k=true:=by
    intro n
    induction n with
    |zero=>exact fun h=>⟨0,h,fun k y hk=>by omega⟩
    |succ n ih=>
     intro h
     by_cases hn:∃y,tr[n]? =some y∧cJ y id∧L n=true
     ·obtain ⟨y,hy,ty,hLn⟩:=hn
      refine ⟨n+1,h,fun k z hk hz tz=> ?_⟩
      rcases Nat.lt_or_eq_of_le (Nat.le_of_lt_succ hk) with q|q
      ·exact order q hz hy tz ty hLn
      ·subst q;exact hLn
     ·refine ih fun k y hk hy ty=> ?_
      rcases Nat.lt_or_eq_of_le hk with q|q
      ·exact h k y q hy ty
      ·subst q
       cases e:L n with
       |false=>rfl
       |true=>exact absurd ⟨y,hy,ty,e⟩ hn
   exact key tr.length fun k y hk hy=>by rw [VO hk] at hy;cases hy
  have still:∀k y,tr[k]? =some y→((m≤k∧k<i)∨(i≤k∧k<m))→eu (cb tr (bE s0) (fun _=>true) (k+1) id) j=eu (cb tr (bE s0) (fun _=>true) k id) j:=by
   intro k y hy hk
   by_cases ty:cJ y id
   ·have SH:eN y.fp x.fp=false∧eN x.fp y.fp=false:=by
     rcases hk with ⟨h1,h2⟩|⟨h1,h2⟩
     ·have hL:=hm1 k y h1 hy ty
      have:eN y.fp x.fp=false:=by
       cases e:eN y.fp x.fp with
       |false=>rfl
       |true=>rw [before h2 hy (.inr e)] at hL;cases hL
      refine ⟨this,?_⟩
      rw [QU] at this ⊢
      rcases fA ty with q|q|⟨l,kc,q,_⟩
      ·rw [q,show eN (.wr id) (.pL id j)=true from Nat.beq_refl id] at this;cases this
      ·rw [q,show eN (.nw id) (.pL id j)=true from Nat.beq_refl id] at this;cases this
      ·rw [q] at this ⊢;exact this
     ·have hL:=T4 k y h2 hy ty
      have Px:i≠k:=fun e=>by subst e;rw [S2] at hL;cases hL
      have:eN x.fp y.fp=false:=by
       cases e:eN x.fp y.fp with
       |false=>rfl
       |true=>rw [after (by omega) hy (.inr e)] at hL;cases hL
      refine ⟨?_,this⟩
      rw [QU] at this ⊢
      rcases fA ty with q|q|⟨l,kc,q,_⟩
      ·rw [q,show eN (.pL id j) (.wr id)=true from Nat.beq_refl id] at this;cases this
      ·rw [q,show eN (.pL id j) (.nw id)=true from Nat.beq_refl id] at this;cases this
      ·rw [q] at this ⊢;exact this
    have hc:=SH.2
    rw [QU] at hc
    rcases fA ty with q|q|⟨l,kc,q,hl⟩
    ·rw [q,show eN (.pL id j) (.wr id)=true from Nat.beq_refl id] at hc;cases hc
    ·rw [q,show eN (.pL id j) (.nw id)=true from Nat.beq_refl id] at hc;cases hc
    ·rw [q] at hc
     have Rm:(id,j)∈kc:=by
      cases e:yL id j kc with
      |true=>exact wb.1 e
      |false=>
       have e2:gn id l=false:=by
        cases e3:gn id l with
        |false=>rfl
        |true=>exact absurd (jT.1 e3) hl
       simp [eN,e,e2] at hc
     obtain ⟨_,hoky⟩:=kR R8 k y hy
     obtain ⟨_,yS,_,_,_,_⟩:=PV k y hy
     have Sh:=hoky.2
     unfold Tr.fp at q
     unfold Tr.Kf at Sh
     cases he:y.e with
     |none=>rw [he] at q;cases q
     |some e=>
      rw [he] at q Sh
      cases e with
      |all s' d=>
       simp only at q Sh
       cases q
       have PW:=Sh.2 id j Rm
       have e1:cb tr (bE s0) (fun _=>true) (k+1) id=bE s' id:=by
        conv=>lhs;unfold cb
        simp only [hy,he,if_neg hl]
       rw [e1,yS]
       exact PW.symm
      |_=>cases q
   ·have e1:cb tr (bE s0) (fun _=>true) (k+1) id=cb tr (bE s0) (fun _=>true) k id:=
     gO tr (bE s0) (L:=fun _=>true) (id:=id) k (k+1) (by omega) (fun j' z h1 h2 hz tz=>by
      obtain rfl:j'=k:=by omega
      rw [hy] at hz
      obtain rfl:=VA hz
      exact absurd tz ty)
    rw [e1]
  have walk:∀n a,(∀k,a≤k→k<a+n→(m≤k∧k<i)∨(i≤k∧k<m))→a+n≤tr.length→eu (cb tr (bE s0) (fun _=>true) (a+n) id) j=eu (cb tr (bE s0) (fun _=>true) a id) j:=by
   intro n
   induction n with
   |zero=>intro a _ _;rfl
   |succ n ih=>
    intro a h hl
    rw [← Nat.add_assoc,still (a+n) _ (List.getElem?_eq_getElem (by omega)) (h (a+n) (by omega) (by omega))]
    exact ih a (fun k h1 h2=>h k h1 (by omega)) (by omega)
  have KO:i<tr.length:=by
   rcases VS i tr.length with q|q
   ·exact q
   ·rw [VO q] at hx;cases hx
  have UQ:cb tr (bE s0) L ops.size id=cb tr (bE s0) (fun _=>true) (min m tr.length) id:=by
   rw [gO tr (bE s0) (L:=L) (id:=id) (min m tr.length) ops.size (by rw [← hlen];exact Nat.min_le_right ..) (fun k y h1 h2 hy ty=>by
    rcases VS k tr.length with q|q
    ·exact hm1 k y (by omega) hy ty
    ·rw [VO q] at hy;cases hy)]
   exact gk tr (bE s0) (L:=L) (L':=fun _=>true) (id:=id) _ (fun k y hk hy ty=>T4 k y (by omega) hy ty)
  rw [UQ,← aS]
  rcases Nat.le_total (min m tr.length) i with q|q
  ·have:=walk (i - min m tr.length) (min m tr.length) (fun k h1 h2=> .inl ⟨by omega,by omega⟩) (by omega)
   rw [show min m tr.length+(i - min m tr.length)=i by omega] at this
   exact this.symm
  ·have:=walk (min m tr.length - i) i (fun k h1 h2=> .inr ⟨by omega,by omega⟩) (by omega)
   rw [show i+(min m tr.length - i)=min m tr.length by omega] at this
   exact this
 have Q8:∀ {j:Nat},j≠i→gx L i j=L j:=fun {j} h=>by simp [gx,h]
 have QA:gx L i i=true:=by simp [gx]
 have P3:closed ops (gx L i):=by
  intro j hj o ho e he hb
  by_cases e1:j=i
  ·subst e1
   by_cases e2:e.on=j
   ·rw [e2];exact QA
   ·rw [Q8 e2];exact hp o ho e he hb
  ·rw [Q8 e1] at hj
   by_cases e2:e.on=i
   ·rw [e2];exact QA
   ·rw [Q8 e2];exact inv.cl j hj o ho e he hb
 have Qk:∀ {M':MM} {v:Value},M.Le M'→bz M' x.val v→bV M' (dY tr t0 (gx L i) ops.size) (a.put x.o.dst v).tmps:=by
  intro M' v le hv
  have hl:=inv.tR.1
  rw [eJ] at hl
  refine ⟨by rw [eJ];cases x.o.dst<;>simp [Act.put,hl],fun y d u h1 h2=> ?_⟩
  by_cases e:x.o.dst=some y
  ·rw [kL tr t0 (L:=gx L i) (i:=y) (i+1) ops.size (by omega) (fun j z q1 q2 hz QM=>by
    rw [Q8 (by omega)]
    refine after (by omega) hz (.inl ?_)
    unfold share
    rw [e]
    simp only [WL]
    left;right
    simp [QM])] at h1
   unfold dY at h1
   simp only [QA,hx,e,put] at h1
   rw [List.getElem?_set] at h1
   simp only [if_true] at h1
   split at h1
   ·obtain rfl:=VA h1
    simp only [e,Act.put] at h2
    rw [Array.getElem?_setIfInBounds] at h2
    simp only [if_true] at h2
    split at h2
    ·obtain rfl:=VA h2;exact hv
    ·cases h2
   ·cases h1
  ·rw [g7 tr t0 (L:=gx L i) (L':=L) (i:=y) ops.size (fun j z hj hz QM=>Q8 (fun q=>by subst q;rw [hx] at hz;obtain rfl:=VA hz;exact e QM))] at h1
   have T1:a.tmps[y]? =some u:=by
    cases QM:x.o.dst with
    |none=>rw [QM] at h2;exact h2
    |some k=>
     rw [QM] at h2
     simp only [Act.put] at h2
     rw [Wm (fun q=>e (by rw [QM,q]))] at h2
     exact h2
   exact (inv.tR.2 y d u h1 T1).mono le
 have PR:∀id,¬cJ x id→cb tr (bE s0) (gx L i) ops.size id=cb tr (bE s0) L ops.size id:=fun id h=>
  gk tr (bE s0) ops.size (fun j z hj hz ht=>Q8 (fun q=>by subst q;rw [hx] at hz;obtain rfl:=VA hz;exact h ht))
 have PK:∀id,cJ x id→cb tr (bE s0) (gx L i) ops.size id=cb tr (bE s0) (gx L i) (i+1) id:=fun id h=>
  gO tr (bE s0) (i+1) ops.size (by omega) (fun j z q1 q2 hz ht=>by
   rw [Q8 (by omega)]
   refine after (by omega) hz (.inr (QX ?_ (fA ht)))
   rcases fA h with q|q|⟨l,kc,q,_⟩
   ·exact .inr (.inl q)
   ·exact .inr (.inr (.inl q))
   ·exact .inr (.inr (.inr ⟨l,kc,q⟩)))
 have Qf:∀id,(M.box id≠none∨∃v,M.br id v≠none)→id<s0.length∨∃(j:Nat) (y:Tr),gx L i j=true∧tr[j]? =some y∧y.s.length≤id∧id<y.dB.length:=by
  intro id h
  rcases inv.live id h with q|⟨j,y,q1,q2,q3,q4⟩
  ·exact .inl q
  ·exact .inr ⟨j,y,by by_cases e:j=i<;>simp [gx,e,q1],q2,q3,q4⟩
 have Rq:∀id,(x.fp= .wr id∨∃l kc,x.fp= .all l kc)→id<x.s.length→id<s0.length∨∃(j:Nat) (y:Tr),gx L i j=true∧tr[j]? =some y∧y.s.length≤id∧id<y.dB.length:=by
  intro id QU PD
  rcases VS id s0.length with q|q
  ·exact .inl q
  ·obtain ⟨j,y,b1,b2,b3,b4⟩:=a6 id q PD
   refine .inr ⟨j,y,?_,b2,b3,b4⟩
   rw [Q8 (by omega)]
   refine before b1 b2 (.inr ?_)
   rcases Ar b3 b4 with h|⟨l,kc,h⟩
   ·refine QP (id:=id) (.inr (.inl h)) ?_
    rcases QU with h|h
    ·exact .inr (.inl h)
    ·exact .inr (.inr (.inr h))
   ·rcases QU with h2|⟨l2,kc2,h2⟩<;>rw [h,h2]<;>rfl
 have Sj:∀ {e0:gp},x.e=some e0→gv P x.o (bJ x.t) x.s e0→Fb P x.o a w K Q:=by
  intro e0 he h0
  have PF:x.val=e0.val x.s.length:=by unfold Tr.val;rw [he]
  cases e0 with
  |pure d=>
   have Sw:∀id,¬cJ x id:=fun id h=>by unfold cJ at h;rw [he] at h;exact h
   refine h0 w0 M own _ w a x.s.length inv.rel Pm trivial K Q fun v M' Pc w' le ad Qv hr=>hK M' Pc w' _ ⟨P3,?_,Qk le (by rw [PF];exact hr),by rw [cY];exact inv.defers,?_,inv.le.trans le⟩
   ·rw [show cb tr (bE s0) (gx L i) ops.size=cb tr (bE s0) L ops.size from funext fun id=>PR id (Sw id)];exact Qv
   ·intro id h;rw [ad.1,ad.2] at h;exact Qf id h
  |read k ob d=>
   have Sw:∀id,¬cJ x id:=fun id h=>by unfold cJ at h;rw [he] at h;exact h
   have QU:x.fp= .rd k:=by unfold Tr.fp;rw [he]
   refine h0.2 w0 M own _ w a x.s.length inv.rel Pm (by show cb _ _ _ _ k=ob;rw [F2 k (.inl QU)];exact h0.1.1) K Q fun v M' Pc w' le ad Qv hr=>hK M' Pc w' _ ⟨P3,?_,Qk le (by rw [PF];exact hr),by rw [cY];exact inv.defers,?_,inv.le.trans le⟩
   ·rw [show cb tr (bE s0) (gx L i) ops.size=cb tr (bE s0) L ops.size from funext fun id=>PR id (Sw id)];exact Qv
   ·intro id h;rw [ad.1,ad.2] at h;exact Qf id h
  |fG k jc d=>
   have Sw:∀id,¬cJ x id:=fun id h=>by unfold cJ at h;rw [he] at h;exact h
   have QU:x.fp= .pL k jc:=by unfold Tr.fp;rw [he]
   refine h0.2 w0 M own _ w a x.s.length inv.rel Pm (by show eu (cb _ _ _ _ k) jc=some d;rw [F3 k jc QU];exact h0.1.1) K Q fun v M' Pc w' le ad Qv hr=>hK M' Pc w' _ ⟨P3,?_,Qk le (by rw [PF];exact hr),by rw [cY];exact inv.defers,?_,inv.le.trans le⟩
   ·rw [show cb tr (bE s0) (gx L i) ops.size=cb tr (bE s0) L ops.size from funext fun id=>PR id (Sw id)];exact Qv
   ·intro id h;rw [ad.1,ad.2] at h;exact Qf id h
  |dv k ob RB d=>
   have QU:x.fp= .wr k:=by unfold Tr.fp;rw [he]
   have Ux:cJ x k:=by unfold cJ;rw [he]
   refine h0.2 w0 M own _ w a x.s.length inv.rel Pm (by show cb _ _ _ _ k=ob;rw [F2 k (.inr (.inl QU))];exact h0.1.1) K Q fun v M' Pc w' le ad Qv hr=>hK M' Pc w' _ ⟨P3,?_,Qk le (by rw [PF];exact hr),by rw [cY];exact inv.defers,?_,inv.le.trans le⟩
   ·rw [show cb tr (bE s0) (gx L i) ops.size=gp.post (.dv k ob RB d) (cb tr (bE s0) L ops.size) x.s.length from funext fun id=>by
     by_cases e:id=k
     ·subst e
      rw [PK id Ux]
      unfold cb
      simp only [QA,hx,he,gp.post,aR]
     ·rw [PR id (fun h=>by unfold cJ at h;rw [he] at h;exact e h)]
      simp only [gp.post,aX e]]
    exact Qv
   ·intro id h
    by_cases e:id=k
    ·subst e;exact Rq id (.inl QU) h0.1.2
    ·rw [ad.1,ad.2 id e] at h;exact Qf id h
  |new ob mk=>
   have Ux:cJ x x.s.length:=by unfold cJ;rw [he]
   have Sn:x.dB.length=x.s.length+1:=by unfold Tr.dB;rw [he];simp
   have Q0:¬(M.box x.s.length≠none∨∃v,M.br x.s.length v≠none):=by
    intro h
    rcases inv.live _ h with q|⟨j,y,q1,q2,q3,q4⟩
    ·omega
    ·rcases Nat.lt_trichotomy j i with c|c|c
     ·have:=a5 j y c q2;omega
     ·subst c;rw [S2] at q1;cases q1
     ·have:=(PV j y q2).2.2.2.2.1 i x c hx;omega
   have UE:M.box x.s.length=none:=by
    cases e:M.box x.s.length with
    |none=>rfl
    |some b=>exact absurd (.inl (by rw [e];simp)) Q0
   have Tp:∀v,M.br x.s.length v=none:=fun v=>by
    cases e:M.br x.s.length v with
    |none=>rfl
    |some b=>exact absurd (.inr ⟨v,by rw [e];simp⟩) Q0
   refine h0 w0 M own _ w a x.s.length inv.rel Pm ⟨UE,Tp⟩ K Q fun v M' Pc w' le ad Qv hr=>hK M' Pc w' _ ⟨P3,?_,Qk le (by rw [PF];exact hr),by rw [cY];exact inv.defers,?_,inv.le.trans le⟩
   ·rw [show cb tr (bE s0) (gx L i) ops.size=gp.post (.new ob mk) (cb tr (bE s0) L ops.size) x.s.length from funext fun id=>by
     by_cases e:id=x.s.length
     ·subst e
      rw [PK _ Ux]
      unfold cb
      simp only [QA,hx,he,gp.post,aR]
     ·rw [PR id (fun h=>by unfold cJ at h;rw [he] at h;exact e h)]
      simp only [gp.post,aX e]]
    exact Qv
   ·intro id h
    by_cases e:id=x.s.length
    ·exact .inr ⟨i,x,QA,hx,by omega,by omega⟩
    ·rw [ad.1 id e,ad.2 id e] at h;exact Qf id h
  |all s' d=>
   have QU:x.fp= .all x.k x.kc:=by unfold Tr.fp;rw [he]
   have hta:∀id,id∉x.k→cJ x id:=fun id hk=>by unfold cJ;rw [he];exact hk
   have Qs:∀id∈x.k,id<x.s.length∧x.s.getD id .dead=s'.getD id .dead:=by have:=Qb.2;unfold Tr.Kf at this;rw [he] at this;exact this.1
   have Sn:x.dB=s':=by unfold Tr.dB;rw [he]
   have Uf:bH w0 M own (bE x.s) w:=by
    rw [← show cb tr (bE s0) L ops.size=bE x.s from funext fun id=>F2 id (.inr (.inr (.inr ⟨_,_,QU⟩)))];exact inv.rel
   have P7:∀id,x.s.length≤id→¬(M.box id≠none∨∃v,M.br id v≠none):=by
    intro id PD h
    rcases inv.live _ h with q|⟨j,y,q1,q2,q3,q4⟩
    ·omega
    ·have hy:y.fp= .nw id∨∃l kc,y.fp= .all l kc:=Ar q3 q4
     rcases Nat.lt_trichotomy j i with c|c|c
     ·have:=a5 j y c q2;omega
     ·subst c;rw [S2] at q1;cases q1
     ·have:=after c q2 (.inr (by rw [QU];rcases hy with h|⟨l,kc,h⟩<;>rw [h]<;>rfl))
      rw [q1] at this;cases this
   have P6:M.upto x.s.length:=by
    refine ⟨fun id PD=> ?_,fun id v PD=> ?_⟩
    ·cases e:M.box id with
     |none=>rfl
     |some b=>exact absurd (.inl (by rw [e];simp)) (P7 id PD)
    ·cases e:M.br id v with
     |none=>rfl
     |some b=>exact absurd (.inr ⟨v,by rw [e];simp⟩) (P7 id PD)
   refine h0.2 w0 M own w a Uf P6 Pm K Q fun v M' Pc w' le up Qv hr=>hK M' Pc w' _ ⟨P3,?_,Qk le (by rw [PF];exact hr),by rw [cY];exact inv.defers,?_,inv.le.trans le⟩
   ·rw [show cb tr (bE s0) (gx L i) ops.size=bE s' from funext fun id=>by
     by_cases e1:id∈x.k
     ·rw [PR id (fun h=>by unfold cJ at h;rw [he] at h;exact h e1),F2 id (.inr (.inr (.inr ⟨_,_,QU⟩)))]
      exact (Qs id e1).2
     ·rw [PK id (hta id e1)]
      unfold cb
      simp only [QA,hx,he,if_neg e1]]
    exact Qv
   ·intro id h
    have Pd:id<s'.length:=by
     rcases VS id s'.length with q|q
     ·exact q
     ·rcases h with h|⟨v,h⟩
      ·exact absurd (up.1 id q) h
      ·exact absurd (up.2 id v q) h
    rcases VS id x.s.length with q|q
    ·exact Rq id (.inr ⟨_,_,QU⟩) q
    ·exact .inr ⟨i,x,QA,hx,q,by rw [Sn];exact Pd⟩
 unfold wpOpIn
 rw [RG]
 simp only []
 replace Qb:=Qb.1
 unfold Tr.Gf at Qb
 split at Qb
 ·rename_i hg
  obtain ⟨e0,he,h0⟩:=Qb
  have:Ww x.o (yielded ops a.tmps)=true:=by simp [Ww,hg]
  rw [if_pos this]
  exact Sj he h0 rr
 ·rename_i j want hg
  have Ru:∀k,(ops[j]?).bind (·.dst)=some k→bz M (x.t.getD k .undef) (a.tmps.getD k undef):=by
   intro k hk
   have:k∈nZ ops x.o:=by
    unfold nZ
    refine List.mem_append.2 (.inr ?_)
    rw [hg]
    cases hq:ops[j]? with
    |none=>rw [hq] at hk;cases hk
    |some q=>
     rw [hq] at hk
     simp only [WO] at hk
     simp only [hq,hk]
     simp
   have h1:=gz inv.tR k
   rw [VJ,F1 k this,← VJ] at h1
   exact h1
  have skip:x.e=none→Ww x.o (yielded ops a.tmps)=false→(if Ww x.o (yielded ops a.tmps) then x.o.wpIn (FW rr) 0 P a w K Q else (∀f,x.o.about P w a.eval=some f→(FW rr).fn f)∧K (a.put x.o.dst undef) w):=by
   intro he this
   rw [this]
   refine ⟨fun _ _=>trivial,?_⟩
   have Sw:∀id,¬cJ x id:=fun id h=>by unfold cJ at h;rw [he] at h;exact h
   have PF:x.val= .aQ []:=by unfold Tr.val;rw [he]
   refine hK M own w _ ⟨P3,?_,Qk (.refl M) (by rw [PF];exact nH),by rw [cY];exact inv.defers,Qf,inv.le⟩
   rw [show cb tr (bE s0) (gx L i) ops.size=cb tr (bE s0) L ops.size from funext fun id=>PR id (Sw id)]
   exact inv.rel
  rcases Qb with ⟨b,hb,PS⟩|⟨hb,he⟩
  ·have hy:yielded ops a.tmps j=some b:=qi (M:=M) (t:=x.t) Ru hb
   rcases PS with ⟨rfl,e0,he,h0⟩|⟨Px,he⟩
   ·have:Ww x.o (yielded ops a.tmps)=true:=by simp [Ww,hg,hy]
    rw [if_pos this]
    exact Sj he h0 rr
   ·exact skip he (by simp [Ww,hg,hy,Px])
  ·have hy:yielded ops a.tmps j=none:=mG (M:=M) (t:=x.t) Ru hb
   exact skip he (by simp [Ww,hg,hy])
theorem lT {Pj:Array Bool} (hl:Pj.size=ops.size) (i:Nat):i∈Region.ready .any ops Pj↔i<ops.size∧Pj.getD i false=false∧z8 ops (fun j=>Pj.getD j false) i:=by
 unfold Region.ready
 rw [List.mem_filter,List.mem_range]
 constructor
 ·rintro ⟨h1,h2⟩
  have ho:ops[i]? =some ops[i]:=by simp [h1]
  rw [ho] at h2
  simp only [WK,Wk,VG,Wn,Array.all_eq_true_iff_forall_mem] at h2
  refine ⟨h1,?_,?_⟩
  ·have:=h2.1
   rw [V6] at this ⊢
   cases e:Pj[i]? with
   |none=>rfl
   |some b=>rw [e] at this;exact this
  ·intro o Tx e he hb
   rw [ho] at Tx
   obtain rfl:=VA Tx
   have:=h2.2 e (by simpa using he)
   rw [hb] at this
   simpa using this
 ·rintro ⟨h1,h2,h3⟩
  refine ⟨h1,?_⟩
  have ho:ops[i]? =some ops[i]:=by simp [h1]
  rw [ho]
  simp only [WK,Wk,VG,Wn,Array.all_eq_true_iff_forall_mem]
  refine ⟨?_,fun e he=> ?_⟩
  ·rw [V6] at h2 ⊢
   have:Pj[i]? =some Pj[i]:=by simp [hl,h1]
   rw [this] at h2 ⊢
   exact h2
  ·cases hb:Region.binds .any e with
   |false=>rfl
   |true=>
    have:=h3 _ ho e (by simpa using he) hb
    simpa using this
theorem ED (R8:Trace P ops ops.toList t0 s0 tr tn sn) (hd:kK ops ((tr.map Tr.fp).reverse++ [])=true) {Q:Exit→Act→World→Prop}
  (hq:∀M' Pc w' a',M0.Le M'→M'.upto sn.length→bH w0 M' Pc (bE sn) w'→bV M' tn a'.tmps→a'.defers=df→Q .normal a' w') (rr:Option Nat):
  ∀(fuel:Nat) (Pj:Array Bool) (M:MM) (own:Nat→Option Nat) (w:World) (a:Act),Pj.size=ops.size→Pj.toList.count false≤fuel→GQ df P ops t0 s0 tr w0 M0 (fun j=>Pj.getD j false) M own w a→wpAnyIn (FW rr) 0 P .any ops Q fuel Pj a w:=by
 obtain ⟨hlen,hedge,_⟩:=oM hd
 obtain ⟨PV,hT,hS⟩:=oO R8
 have fin:∀ {Pj:Array Bool} {M:MM} {own:Nat→Option Nat} {w:World} {a:Act},(∀j,j<ops.size→Pj.getD j false=true)→GQ df P ops t0 s0 tr w0 M0 (fun j=>Pj.getD j false) M own w a→Q .normal a w:=by
  intro Pj M own w a Ra inv
  have e1:dY tr t0 (fun j=>Pj.getD j false) ops.size=tn:=by
   rw [← hT,hlen]
   apply List.ext_getElem?
   intro k
   exact g7 tr t0 ops.size (fun j x hj _ _=>Ra j hj)
  have e2:cb tr (bE s0) (fun j=>Pj.getD j false) ops.size=bE sn:=by
   rw [← hS,hlen]
   funext id
   exact gk tr (bE s0) ops.size (fun j x hj _ _=>Ra j hj)
  have P7:∀id,sn.length≤id→¬(M.box id≠none∨∃v,M.br id v≠none):=by
   intro id PD h
   rcases inv.live _ h with q|⟨j,y,q1,q2,q3,q4⟩
   ·have:=gD R8;omega
   ·have:=(PV j y q2).2.2.2.1;omega
  refine hq M own w a inv.le ⟨fun id PD=> ?_,fun id v PD=> ?_⟩ (e2▸inv.rel) (e1▸inv.tR) inv.defers
  ·cases e:M.box id with
   |none=>rfl
   |some b=>exact absurd (.inl (by rw [e];simp)) (P7 id PD)
  ·cases e:M.br id v with
   |none=>rfl
   |some b=>exact absurd (.inr ⟨v,by rw [e];simp⟩) (P7 id PD)
 have nothing:∀ {Pj:Array Bool},Pj.size=ops.size→Region.ready .any ops Pj= []→∀j,j<ops.size→Pj.getD j false=true:=by
  intro Pj hl hr j
  induction j using Nat.strongRecOn with
  |_ j ih=>
   intro hj
   cases e:Pj.getD j false with
   |true=>rfl
   |false=>
    have:j∈Region.ready .any ops Pj:=(lT hl j).2 ⟨hj,e,fun o ho ed he hb=>ih ed.on (hedge j o ho ed he hb) (by have:=hedge j o ho ed he hb;omega)⟩
    rw [hr] at this
    cases this
 intro fuel
 induction fuel with
 |zero=>
  intro Pj M own w a hl hc inv
  have Ra:∀j,j<ops.size→Pj.getD j false=true:=by
   intro j hj
   have h0:Pj.toList.count false=0:=by omega
   rw [List.count_eq_zero] at h0
   have Sa:j<Pj.size:=by omega
   rw [V6]
   have:Pj[j]? =some Pj[j]:=by simp [Sa]
   rw [this]
   cases e:Pj[j] with
   |true=>simp
   |false=>exact absurd (by rw [← e];simp) h0
  refine ⟨?_,fin Ra inv⟩
  apply List.eq_nil_iff_forall_not_mem.2
  intro i hi
  have:=(lT hl i).1 hi
  rw [Ra i this.1] at this
  exact absurd this.2.1 (by simp)
 |succ fuel ih=>
  intro Pj M own w a hl hc inv
  refine ⟨fun hr=>fin (nothing hl hr) inv,fun i hi=> ?_⟩
  obtain ⟨h1,h2,h3⟩:=(lT hl i).1 hi
  have hx:tr[i]? =some (tr[i]'(by omega)):=by simp [show i<tr.length by omega]
  refine A4 R8 hd inv hx h2 h3 (fun M' Pc w' a' Uq=>ih _ M' Pc w' a' (by simp [hl]) ?_ ?_) rr
  ·have Pd:i<Pj.toList.length:=by simp [hl,h1]
   have P5:Pj.toList[i]=false:=by
    rw [V6] at h2
    have:Pj[i]? =some Pj[i]:=by simp [hl,h1]
    rw [this] at h2
    simpa using h2
   have P0:(Pj.setIfInBounds i true).toList=Pj.toList.set i true:=by simp
   rw [P0,List.count_set Pd]
   have Pw:0<Pj.toList.count false:=List.count_pos_iff.2 (by rw [← P5];simp)
   rw [P5]
   rw [show (if (false==false)=true then 1 else 0)=1 from rfl,show (if (true==false)=true then 1 else 0)=0 from rfl]
   omega
  ·have:(fun j=>(Pj.setIfInBounds i true).getD j false)=gx (fun j=>Pj.getD j false) i:=by
    funext j
    unfold gx
    simp only [V6]
    by_cases e:j=i
    ·subst e;simp [hl,h1]
    ·rw [Wm (Ne.symm e),if_neg e]
   rw [this]
   exact Uq
theorem vp (R8:Trace P ops ops.toList t0 s0 tr tn sn) (hd:kK ops ((tr.map Tr.fp).reverse++ [])=true) (hm:P.follows .mixedOrders=true) {M:MM} {own:Nat→Option Nat} {w:World} {a:Act} (id:Nat)
  (hw:bH w0 M own (bE s0) w) (hu:M.upto s0.length) (ht:bV M t0 a.tmps) (UI:a.defers=df) {Q:Exit→Act→World→Prop} (rr:Option Nat)
  (hq:∀M' Pc w' a',M.Le M'→M'.upto sn.length→bH w0 M' Pc (bE sn) w'→bV M' tn a'.tmps→a'.defers=df→Q .normal a' w'):(Code.region id ops true).wpIn (FW rr) 0 P Q a w:=by
 refine wpIn_region_any hm (ED (w0:=w0) (M0:=M) R8 hd hq rr ops.size _ M own _ a (by simp) ?_ ?_)
 ·rw [Array.toList_replicate];simp
 ·have hL:∀j,(Array.replicate ops.size false).getD j false=false:=fun j=>by
   rw [V6,Array.getElem?_replicate]
   split<;>rfl
  have eT:∀k,dY tr t0 (fun j=>(Array.replicate ops.size false).getD j false) k=t0:=by
   intro k
   induction k with
   |zero=>rfl
   |succ k ih=>unfold dY;simp only [hL k];exact ih
  have eS:∀k,cb tr (bE s0) (fun j=>(Array.replicate ops.size false).getD j false) k=bE s0:=by
   intro k
   induction k with
   |zero=>rfl
   |succ k ih=>unfold cb;simp only [hL k];exact ih
  refine ⟨fun j hj=> ?_,?_,?_,UI,?_,.refl M⟩
  ·rw [hL j] at hj;cases hj
  ·rw [eS];exact hw.drew
  ·rw [eT];exact ht
  ·intro id h
   left
   rcases VS id s0.length with q|q
   ·exact q
   ·rcases h with h|⟨v,h⟩
    ·exact absurd (hu.1 id q) h
    ·exact absurd (hu.2 id v q) h
end
end Go.Ev
