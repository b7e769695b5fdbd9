import Derived.Test.YtbfpahigdpigpaaGreatQ02
open Option.some renaming inj→aad
open Bool renaming and_eq_true→aae,or_eq_true→aax,not_eq_true'→aaK
open List renaming getD_eq_getElem?_getD→aaf,getElem?_eq_none→aam,length_append→aap,length_cons→aaw,length_nil→aaC,getElem?_cons_succ→abf,mem_cons→abj,length_singleton→abl,getElem?_set_ne→abn
open Nat renaming le_refl→aar,lt_or_ge→aaA,beq_eq→aaG,zero_add→aaY
open Array renaming getElem?_toList→aaB,getD_eq_getD_getElem? →aaJ,getElem?_eq_none→aaW,length_toList→aaX,getElem?_setIfInBounds_ne→aa3
open Option renaming getD_some→aa9,map_some→abv,bind_some→abx
open Go.Region renaming wanted→abc
/- Contracts and plain laws that a statement's proof leans on (texts merged:EvN). -/
set_option linter.unusedVariables false
set_option linter.unusedSimpArgs false
namespace Go.Ev
open Go Go.RowKit
section
variable {ρ':Type}
mutual
theorem force_eq:∀(d:D) (K:D→Option ρ'),force d K=K d
  | .undef,K=>by simp [force]
  | .int _ _,K=>by simp [force]
  | .bool _,K=>by simp [force]
  | .str _,K=>by simp [force]
  | .fW,K=>by simp [force]
  | .ptr _ _ _,K=>by simp [force]
  | .eL _ _ _,K=>by simp [force]
  | .gl _,K=>by simp [force]
  | .jx _,K=>by simp [force]
  | .dm _ _ _,K=>by simp [force]
  | .sub _ _ _ _ _,K=>by simp [force]
  | .aY _ _ _,K=>by simp [force]
  | .b6,K=>by simp [force]
  | .fn f a b,K=>by rw [force,gW,gW]
  | .agg cs,K=>by rw [force,gW]
  | .aL cs,K=>by rw [force,gW]
theorem gW:∀(l:List D) (K:List D→Option ρ'),iY l K=K l
  | [],K=>by simp [iY]
  |d::r,K=>by rw [iY,force_eq,gW]
end
theorem EH:∀(l:List D) (i:Nat) (d:D) (K:List D→Option ρ'),Gk l i d K=K (l.set i d)
 | [],i,d,K=>by simp [Gk]
 |a::r,0,d,K=>by simp [Gk]
 |a::r,i+1,d,K=>by rw [Gk,EH];rfl
theorem ky (t:List D) (dst:Option Nat) (d:D) (K:List D→Option ρ'):nC t dst d K=K (put t dst d):=by
 cases dst with
 |none=>rfl
 |some i=>simp only [nC,force_eq,EH,put]
theorem iT:∀(l:List Ob) (i:Nat) (d:Ob) (K:List Ob→Option ρ'),ku l i d K=K (l.set i d)
 | [],i,d,K=>by simp [ku]
 |a::r,0,d,K=>by simp [ku]
 |a::r,i+1,d,K=>by rw [ku,iT];rfl
theorem s7:∀(es:List (List D×D)) (K:List (List D×D)→Option ρ'),rz es K=K es
 | [],_=>rfl
 |(n,d)::r,K=>by simp [rz,gW,force_eq,s7 r]
theorem Df (o:Ob) (K:Ob→Option ρ'):yf o K=K o:=by cases o<;>simp [yf,gW,s7]
theorem s6 {ρ':Type} {P:Program} {r:ρ'} {z:Z P} {o:Ob} {k:Z P→Ob→Option ρ'} (h:qb z o k=some r):∃z',k z' o=some r∧(z'.c→z.c):=by
 unfold qb at h
 split at h
 ·exact ⟨_,h,id⟩
 ·rw [Df] at h
  exact ⟨_,h,id⟩
theorem pL:∀(l:List Ob) (o:Ob) (K:List Ob→Option ρ'),nQ l o K=K (l++ [o])
 | [],o,K=>by simp [nQ]
 |a::r,o,K=>by rw [nQ,pL];rfl
end
structure Tr where
  o:Oper
  t:List D
  s:List Ob
  e:Option jB
  k:List Nat
  kc:List (Nat×Nat)
def Tr.val (x:Tr):D:=match x.e with|none=> .aL []|some e=>e.val x.s.length
def Tr.Fm (x:Tr):List D:=put x.t x.o.dst x.val
def Tr.fE (x:Tr):List Ob:=match x.e with
  |some (.gK i _ o' _)=>x.s.set i o'
  |some (.new o' _)=>x.s++ [o']
  |some (.all s' _)=>s'
  |_=>x.s
def Tr.fp (x:Tr):FP:=match x.e with
  |some (.read i _ _)=> .rd i
  |some (.iU i j _)=> .uj i j
  |some (.gK i _ _ _)=> .wr i
  |some (.new _ _)=> .nw x.s.length
  |some (.all _ _)=> .all x.k x.kc
  |_=> .O9
def Tr.QV (x:Tr):Prop:=match x.e with
  |some (.all s' _)=>(∀i∈x.k,i<x.s.length∧x.s.getD i .dead=s'.getD i .dead)∧∀i j,(i,j)∈x.kc→hG (x.s.getD i .dead) j=hG (s'.getD i .dead) j
  |_=>True
def Tr.MI (P:Program) (ops:Array Oper) (x:Tr):Prop:=
  match x.o.guard with
  |none=> ∃e,x.e=some e∧jH P x.o (cJ x.t) x.s e
  |some (j,want)=>(∃b,j8 ops x.t j= .bool b∧((b=want∧∃e,x.e=some e∧jH P x.o (cJ x.t) x.s e)∨(b≠want∧x.e=none)))∨(j8 ops x.t j= .aL []∧x.e=none)
def Tr.ok (P:Program) (ops:Array Oper) (x:Tr):Prop:=x.MI P ops∧x.QV
theorem p8 {s s':List Ob} :∀(l:List (Nat×Ob)) {c:Prop},sQ s.length l=true→FA s s' l c→c∧∀i∈np l,i<s.length∧s.getD i .dead=s'.getD i .dead
 | [],c,_,h=>⟨h,fun i hi=>by simp [np] at hi⟩
 |(i,o)::r,c,hl,h=>by
  simp only [sQ] at hl
  split at hl
  ·rename_i T1
   obtain ⟨⟨⟨h1,h2⟩,h3⟩,h4⟩:=p8 r hl h
   refine ⟨h3,fun j hj=> ?_⟩
   rw [np,abj] at hj
   rcases hj with rfl|hj
   ·exact ⟨Nat.lt_of_succ_le (by simpa [Nat.blt,Nat.ble_eq] using T1),h1.symm.trans h2⟩
   ·exact h4 j hj
  ·cases hl
theorem vA {s s':List Ob} :∀(l:List (Nat×Nat×D)) {c:Prop},LA s s' l c→c∧∀i j,(i,j)∈pA l→hG (s.getD i .dead) j=hG (s'.getD i .dead) j
 | [],c,h=>⟨h,fun i j hi=>by simp [pA] at hi⟩
 |(i,j,d)::r,c,h=>by
  obtain ⟨⟨⟨h1,h2⟩,h3⟩,h4⟩:=vA r h
  refine ⟨h3,fun a b hj=> ?_⟩
  rw [pA,abj] at hj
  rcases hj with e|hj
  ·cases e;exact h1.symm.trans h2
  ·exact h4 a b hj
theorem Hz {ρ':Type} {P:Program} {r:ρ'} {z:Z P} {s s':List Ob} {k:Z P→List Nat→List (Nat×Nat)→Option ρ'} (h:Fy z s s' k=some r):∃z' l kc,k z' l kc=some r∧(z'.c→z.c∧(∀i∈l,i<s.length∧s.getD i .dead=s'.getD i .dead)∧∀i j,(i,j)∈kc→hG (s.getD i .dead) j=hG (s'.getD i .dead) j):=by
 unfold Fy at h
 split at h
 ·rename_i l rest hz
  obtain ⟨hl,h⟩:=bW h
  refine ⟨_,_,_,h,fun hc=> ?_⟩
  obtain ⟨h1,h2⟩:=p8 l hl hc
  exact ⟨h1,h2,fun i j hi=>by simp at hi⟩
 ·rename_i cs l rest hz
  obtain ⟨hl,h⟩:=bW h
  refine ⟨_,_,_,h,fun hc=> ?_⟩
  obtain ⟨h0,h3⟩:=vA cs hc
  obtain ⟨h1,h2⟩:=p8 l hl h0
  exact ⟨h1,h2,h3⟩
 ·exact ⟨z,[],[],h,fun c=>⟨c,fun i hi=>by simp at hi,fun i j hi=>by simp at hi⟩⟩
def Trace (P:Program) (ops:Array Oper):List Oper→List D→List Ob→List Tr→List D→List Ob→Prop
  | [],t,s,tr,t',s'=>tr= []∧t'=t∧s'=s
  |o::rest,t,s,tr,t',s'=> ∃x xs,tr=x::xs∧x.o=o∧x.t=t∧x.s=s∧x.ok P ops∧Trace P ops rest x.Fm x.fE xs t' s'
theorem gG {ρ':Type} {P:Program} {r:ρ'} {inl:FZ P ρ'} (Um:lq P inl) {ops:Array Oper} :∀ {rest:List Oper} {t:List D} {s:List Ob} {Ve:List FP} {z:Z P} {K:List D→List Ob→List FP→Z P→Option ρ'},mH P inl ops rest t s Ve z K=some r→
  ∃tr t' s' z',K t' s' ((tr.map Tr.fp).reverse++Ve) z'=some r∧(z'.c→z.c∧Trace P ops rest t s tr t' s')
 | [],t,s,Ve,z,K,h=>⟨[],t,s,z,h,fun c=>⟨c,rfl,rfl,rfl⟩⟩
 |o::rest,t,s,Ve,z,K,h=>by
  have run:∀ {z:Z P} {want:Prop},(Rs P inl o t s z fun z e=>match e with
    | .pure d=>nC t o.dst d fun t'=>mH P inl ops rest t' s (.O9::Ve) z K
    | .read id _ d=>nC t o.dst d fun t'=>mH P inl ops rest t' s (.rd id::Ve) z K
    | .iU id j d=>nC t o.dst d fun t'=>mH P inl ops rest t' s (.uj id j::Ve) z K
    | .gK id _ o' d=>nC t o.dst d fun t'=>qb z o' fun z o2=>ku s id o2 fun s'=>mH P inl ops rest t' s' (.wr id::Ve) z K
    | .new o' mk=>nC t o.dst (mk s.length) fun t'=>qb z o' fun z o2=>nQ s o2 fun s'=>mH P inl ops rest t' s' (.nw s.length::Ve) z K
    | .all s' d=>nC t o.dst d fun t'=>Fy z s s' fun z l kc=>mH P inl ops rest t' s' (.all l kc::Ve) z K)=some r→
    ∃e l kc tr t' s' z',K t' s' ((tr.map Tr.fp).reverse++((⟨o,t,s,some e,l,kc⟩:Tr).fp::Ve)) z'=some r∧(z'.c→z.c∧jH P o (cJ t) s e∧(⟨o,t,s,some e,l,kc⟩:Tr).QV∧Trace P ops rest (⟨o,t,s,some e,l,kc⟩:Tr).Fm (⟨o,t,s,some e,l,kc⟩:Tr).fE tr t' s'):=by
   intro z want h
   obtain ⟨e,z1,h1,h2⟩:=MG Um h
   cases e with
   |pure d=>
    simp only [ky] at h1
    obtain ⟨tr,t',s',z',k1,k2⟩:=gG Um h1
    exact ⟨.pure d,[],[],tr,t',s',z',k1,fun c=>⟨(h2 (k2 c).1).1,(h2 (k2 c).1).2,trivial,(k2 c).2⟩⟩
   |read i ob d=>
    simp only [ky] at h1
    obtain ⟨tr,t',s',z',k1,k2⟩:=gG Um h1
    exact ⟨.read i ob d,[],[],tr,t',s',z',k1,fun c=>⟨(h2 (k2 c).1).1,(h2 (k2 c).1).2,trivial,(k2 c).2⟩⟩
   |iU i j d=>
    simp only [ky] at h1
    obtain ⟨tr,t',s',z',k1,k2⟩:=gG Um h1
    exact ⟨.iU i j d,[],[],tr,t',s',z',k1,fun c=>⟨(h2 (k2 c).1).1,(h2 (k2 c).1).2,trivial,(k2 c).2⟩⟩
   |gK i ob ob' d=>
    simp only [ky] at h1
    obtain ⟨z2,h3,h4⟩:=s6 h1
    rw [iT] at h3
    obtain ⟨tr,t',s',z',k1,k2⟩:=gG Um h3
    exact ⟨.gK i ob ob' d,[],[],tr,t',s',z',k1,fun c=>⟨(h2 (h4 (k2 c).1)).1,(h2 (h4 (k2 c).1)).2,trivial,(k2 c).2⟩⟩
   |new ob mk=>
    simp only [ky] at h1
    obtain ⟨z2,h3,h4⟩:=s6 h1
    rw [pL] at h3
    obtain ⟨tr,t',s',z',k1,k2⟩:=gG Um h3
    exact ⟨.new ob mk,[],[],tr,t',s',z',k1,fun c=>⟨(h2 (h4 (k2 c).1)).1,(h2 (h4 (k2 c).1)).2,trivial,(k2 c).2⟩⟩
   |all s2 d=>
    simp only [ky] at h1
    obtain ⟨z2,l,kc,h3,h4⟩:=Hz h1
    obtain ⟨tr,t',s',z',k1,k2⟩:=gG Um h3
    exact ⟨.all s2 d,l,kc,tr,t',s',z',k1,fun c=>⟨(h2 (h4 (k2 c).1).1).1,(h2 (h4 (k2 c).1).1).2,(h4 (k2 c).1).2,(k2 c).2⟩⟩
  unfold mH at h
  simp only at h
  split at h
  ·rename_i hg
   obtain ⟨e,l,kc,tr,t',s',z',k1,k2⟩:=run (want:=True) h
   refine ⟨⟨o,t,s,some e,l,kc⟩::tr,t',s',z',by simpa using k1,fun c=>⟨(k2 c).1,_,_,rfl,rfl,rfl,rfl,⟨?_,(k2 c).2.2.1⟩,(k2 c).2.2.2⟩⟩
   simp only [Tr.MI,hg]
   exact ⟨e,rfl,(k2 c).2.1⟩
  ·rename_i j want hg
   split at h
   ·rename_i b hb
    obtain ⟨z1,⟨h1,h2⟩|⟨h1,h2⟩⟩:=nZ h
    ·obtain ⟨e,l,kc,tr,t',s',z',k1,k2⟩:=run (want:=True) h1
     refine ⟨⟨o,t,s,some e,l,kc⟩::tr,t',s',z',by simpa using k1,fun c=>⟨(h2 (k2 c).1).1,_,_,rfl,rfl,rfl,rfl,⟨?_,(k2 c).2.2.1⟩,(k2 c).2.2.2⟩⟩
     simp only [Tr.MI,hg]
     exact .inl ⟨b,hb,.inl ⟨by simpa using (h2 (k2 c).1).2,e,rfl,(k2 c).2.1⟩⟩
    ·rw [ky] at h1
     obtain ⟨tr,t',s',z',k1,k2⟩:=gG Um h1
     refine ⟨⟨o,t,s,none,[],[]⟩::tr,t',s',z',by simpa [Tr.fp] using k1,fun c=>⟨(h2 (k2 c).1).1,_,_,rfl,rfl,rfl,rfl,⟨?_,trivial⟩,(k2 c).2⟩⟩
     simp only [Tr.MI,hg]
     exact .inl ⟨b,hb,.inr ⟨by simpa using (h2 (k2 c).1).2,trivial⟩⟩
   ·rename_i hb
    rw [ky] at h
    obtain ⟨tr,t',s',z',k1,k2⟩:=gG Um h
    refine ⟨⟨o,t,s,none,[],[]⟩::tr,t',s',z',by simpa [Tr.fp] using k1,fun c=>⟨(k2 c).1,_,_,rfl,rfl,rfl,rfl,⟨?_,trivial⟩,(k2 c).2⟩⟩
    simp only [Tr.MI,hg]
    exact .inr ⟨hb,trivial⟩
   ·cases h
theorem js {M M':MM} (le:M.Le M') {t:List D} {a:Act} (h:cy M t a.tmps) {dst:Option Nat} {d:D} {v:Value} (hr:b7 M' d v):cy M' (put t dst d) (a.put dst v).tmps:=by
 cases dst with
 |none=>exact h.mono le
 |some i=>
  refine ⟨by simp [put,Act.put,h.1],fun k d' v' p q=> ?_⟩
  simp only [put,Act.put] at p q
  by_cases e:i=k
  ·subst e
   have T1:i<t.length:=by
    rcases aaA i t.length with x|x
    ·exact x
    ·rw [aam (by simpa using x)] at p;cases p
   have WC:i<a.tmps.size:=by rw [← h.1];exact T1
   simp [T1] at p
   simp [WC] at q
   subst p q
   exact hr
  ·rw [abn e] at p
   rw [aa3 e] at q
   exact (h.2 k d' v' p q).mono le
theorem ef (a:Act) (dst:Option Nat) (v:Value):(a.put dst v).defers=a.defers:=by cases dst<;>rfl
theorem vk {M:MM} {ops:Array Oper} {t:List D} {a:Act} {j:Nat} {b:Bool} (h:∀i,(ops[j]?).bind (·.dst)=some i→b7 M (t.getD i .undef) (a.tmps.getD i undef)) (hg:j8 ops t j= .bool b):yielded ops a.tmps j=some b:=by
 unfold j8 at hg
 split at hg
 ·rename_i o ho
  split at hg
  ·rename_i i hi
   have h1:=h i (by simp [ho,hi])
   rw [hg] at h1
   unfold yielded
   simp only [ho,abx,hi]
   generalize hv:a.tmps.getD i undef=v at h1
   cases h1
   rw [aaJ] at hv
   cases e:a.tmps[i]? with
   |none=>rw [e] at hv;cases hv
   |some u=>rw [e] at hv;simp only [aa9] at hv;subst hv;rfl
  ·cases hg
 ·cases hg
theorem sr {M:MM} :b7 M (.aL []) undef:= .aL rfl (fun i d v h=>by simp at h)
theorem qz {M:MM} {ops:Array Oper} {t:List D} {a:Act} {j:Nat} (h:∀i,(ops[j]?).bind (·.dst)=some i→b7 M (t.getD i .undef) (a.tmps.getD i undef)) (hg:j8 ops t j= .aL []):yielded ops a.tmps j=none:=by
 unfold j8 at hg
 split at hg
 ·rename_i o ho
  split at hg
  ·rename_i i hi
   have h1:=h i (by simp [ho,hi])
   rw [hg] at h1
   unfold yielded
   simp only [ho,abx,hi]
   generalize hv:a.tmps.getD i undef=v at h1
   cases h1
   rw [aaJ] at hv
   cases e:a.tmps[i]? with
   |none=>rfl
   |some u=>rw [e] at hv;simp only [aa9] at hv;subst hv;rfl
  ·cases hg
 ·cases hg
theorem jS {M:MM} {t:List D} {vs:Array Value} (h:cy M t vs) (i:Nat):b7 M (t.getD i .undef) (vs.getD i undef):=by
 cases e:t[i]? with
 |none=>rw [aaf,e];exact .undef _
 |some d=>
  obtain ⟨v,hv,hr⟩:=h.get e
  rw [aaf,e,aaJ,hv]
  exact hr
theorem mu {s:List Ob} {i:Nat} (h:i<s.length) (o:Ob):bJ (s.set i o)=gK (bJ s) i o:=by
 funext k
 unfold bJ gK
 simp only [aaf]
 by_cases e:k=i
 ·subst e;rw [List.getElem?_set_self h];simp
 ·rw [abn (Ne.symm e),if_neg e]
theorem pG (s:List Ob) (o:Ob):bJ (s++ [o])=gK (bJ s) s.length o:=by
 funext k
 unfold bJ gK
 simp only [aaf,List.getElem?_append]
 by_cases e:k=s.length
 ·subst e;simp
 ·rw [if_neg e]
  split
  ·rfl
  ·rename_i h
   rw [aam (by simp;omega),aam (by omega)]
theorem MM.kY {M M':MM} {n m:Nat} (h:M.upto n) (hb:∀j,m≤j→M'.box j=M.box j) (hh:∀j,m≤j→M'.bX j=M.bX j) (hm:n≤m):M'.upto m:=
 ⟨fun id hi=>by rw [hb id hi];exact h.1 id (by omega),fun id v hi=>by rw [hh id hi];exact h.2 id v (by omega)⟩
theorem Gh {P:Program} {ops:Array Oper} {x:Tr} (hx:x.ok P ops) {w0:eJ} {M:MM} {own:Nat→Option Nat} {w:World} {a:Act} (hw:ca w0 M own (bJ x.s) w) (hu:M.upto x.s.length) (ht:cy M x.t a.tmps)
  {next:Act→World→Prop} {Q:Exit→Act→World→Prop}
  (hn:∀M' TW w' a',M.Le M'→M'.upto x.fE.length→ca w0 M' TW (bJ x.fE) w'→cy M' x.Fm a'.tmps→a'.defers=a.defers→next a' w'):
  (if abc x.o (yielded ops a.tmps) then Mb P x.o a w next Q else next (a.put x.o.dst undef) w)∧x.s.length≤x.fE.length:=by
 obtain ⟨o,t,s,e,l,kc⟩:=x
 replace hx:=hx.1
 replace hu:M.upto s.length:=hu
 replace hw:ca w0 M own (bJ s) w:=hw
 replace ht:cy M t a.tmps:=ht
 have Xf:∀ {e0:jB},e=some e0→jH P o (cJ t) s e0→Mb P o a w next Q∧s.length≤(⟨o,t,s,e,l,kc⟩:Tr).fE.length:=by
  intro e0 he h0
  subst he
  have Va:∀y∈o.op.operands,b7 M (cJ t y) (a.eval y):=fun y _=>oM ht y
  have UB:M.box s.length=none∧∀v,M.bX s.length v=none:=⟨hu.1 _ (aar _),fun v=>hu.2 _ v (aar _)⟩
  cases e0 with
  |pure d=>
   exact ⟨h0 w0 M own _ w a s.length hw Va trivial next Q fun v M' TW w' le ad UY hr=>hn M' TW w' _ le (MM.kY hu (m:=s.length) (fun j _=>by rw [ad.1]) (fun j _=>by rw [ad.2]) (aar _)) UY (js le ht hr) (ef _ _ _),aar _⟩
  |iU i j d=>
   exact ⟨h0.2 w0 M own _ w a s.length hw Va h0.1.1 next Q fun v M' TW w' le ad UY hr=>hn M' TW w' _ le (MM.kY hu (m:=s.length) (fun j _=>by rw [ad.1]) (fun j _=>by rw [ad.2]) (aar _)) UY (js le ht hr) (ef _ _ _),aar _⟩
  |read i ob d=>
   exact ⟨h0.2 w0 M own _ w a s.length hw Va h0.1.1 next Q fun v M' TW w' le ad UY hr=>hn M' TW w' _ le (MM.kY hu (m:=s.length) (fun j _=>by rw [ad.1]) (fun j _=>by rw [ad.2]) (aar _)) UY (js le ht hr) (ef _ _ _),aar _⟩
  |gK i ob ob' d=>
   refine ⟨h0.2 w0 M own _ w a s.length hw Va h0.1.1 next Q fun v M' TW w' le ad UY hr=>hn M' TW w' _ le (by
    simp only [Tr.fE,List.length_set]
    exact MM.kY hu (fun j _=>by rw [ad.1]) (fun j hj=>ad.2 j (by have:=h0.1.2;omega)) (aar _)) (by simp only [Tr.fE];rw [mu h0.1.2];exact UY) (js le ht hr) (ef _ _ _),by simp [Tr.fE]⟩
  |new ob mk=>
   refine ⟨h0 w0 M own _ w a s.length hw Va UB next Q fun v M' TW w' le ad UY hr=>hn M' TW w' _ le (by
    simp only [Tr.fE,aap,abl]
    exact MM.kY hu (fun j hj=>ad.1 j (by omega)) (fun j hj=>ad.2 j (by omega)) (by omega)) (by simp only [Tr.fE];rw [pG];exact UY) (js le ht hr) (ef _ _ _),by simp [Tr.fE]⟩
  |all s' d=>
   exact ⟨h0.2 w0 M own w a hw hu Va next Q fun v M' TW w' le up UY hr=>hn M' TW w' _ le up UY (js le ht hr) (ef _ _ _),h0.1⟩
 unfold Tr.MI at hx
 simp only at hx
 split at hx
 ·rename_i hg
  obtain ⟨e0,he,h0⟩:=hx
  obtain ⟨k1,k2⟩:=Xf he h0
  refine ⟨?_,k2⟩
  have:abc o (yielded ops a.tmps)=true:=by simp [abc,hg]
  rw [if_pos this]
  exact k1
 ·rename_i j want hg
  rcases hx with ⟨b,hb,Uw⟩|⟨hb,rfl⟩
  ·have hy:=vk (M:=M) (a:=a) (fun i _=>jS ht i) hb
   rcases Uw with ⟨rfl,e0,he,h0⟩|⟨Ut,rfl⟩
   ·obtain ⟨k1,k2⟩:=Xf he h0
    refine ⟨?_,k2⟩
    have:abc o (yielded ops a.tmps)=true:=by simp [abc,hg,hy]
    rw [if_pos this]
    exact k1
   ·have:abc o (yielded ops a.tmps)=false:=by simp [abc,hg,hy,Ut]
    rw [this]
    exact ⟨hn M own w _ (.refl M) hu hw (js (.refl M) ht sr) (ef _ _ _),aar _⟩
  ·have hy:=qz (M:=M) (a:=a) (fun i _=>jS ht i) hb
   have:abc o (yielded ops a.tmps)=false:=by simp [abc,hg,hy]
   rw [this]
   exact ⟨hn M own w _ (.refl M) hu hw (js (.refl M) ht sr) (ef _ _ _),aar _⟩
theorem qv {P:Program} {ops:Array Oper} {w0:eJ} {Q:Exit→Act→World→Prop} {df:List Deferred} (rr:Option Nat):∀ {rest:List Oper} {t:List D} {s:List Ob} {tr:List Tr} {t':List D} {s':List Ob},Trace P ops rest t s tr t' s'→
  ∀ {M:MM} {own:Nat→Option Nat} {w:World} {a:Act} (k:Nat),ops.toList.drop k=rest→ca w0 M own (bJ s) w→M.upto s.length→cy M t a.tmps→a.defers=df→
  (∀M' TW w' a',M.Le M'→M'.upto s'.length→ca w0 M' TW (bJ s') w'→cy M' t' a'.tmps→a'.defers=df→Q .normal a' w')→wpOpsIn (FW rr) 0 P ops Q (List.range' k rest.length) a w
 | [],t,s,tr,t',s',h,M,own,w,a,k,hk,hw,hu,ht,hd,hq=>by
  obtain ⟨rfl,rfl,rfl⟩:=h
  exact hq M own w a (.refl M) hu hw ht hd
 |o::rest,t,s,tr,t',s',h,M,own,w,a,k,hk,hw,hu,ht,hd,hq=>by
  obtain ⟨x,xs,rfl,rfl,rfl,rfl,Uy,h⟩:=h
  have V0:ops[k]? =some x.o:=by
   rw [← aaB]
   have:=congrArg (fun l=>l[0]?) hk
   simpa using this
  have Yl:ops.toList.drop (k+1)=rest:=by
   have:=congrArg List.tail hk
   simpa using this
  rw [aaw,List.range'_succ]
  simp only [wpOpsIn,V0]
  have hs:=(Gh (next:=wpOpsIn (FW rr) 0 P ops Q (List.range' (k+1) rest.length)) (Q:=Q) Uy hw hu ht fun M' TW w' a' le up UY Yv Yo=>qv rr h (k+1) Yl UY up Yv (by rw [Yo];exact hd) fun M2 U4 w2 a2 VG up2 Vh WZ hd2=>hq M2 U4 w2 a2 (le.trans VG) up2 Vh WZ hd2).1
  split
  ·rename_i Zi
   rw [if_pos Zi] at hs
   exact hs rr
  ·rename_i Zi
   rw [if_neg Zi] at hs
   exact ⟨fun _ _=>trivial,hs⟩
theorem ov {P:Program} {ops:Array Oper} :∀ {rest:List Oper} {t:List D} {s:List Ob} {tr:List Tr} {t':List D} {s':List Ob},Trace P ops rest t s tr t' s'→∀(i:Nat) (x:Tr),tr[i]? =some x→rest[i]? =some x.o∧x.ok P ops
 | [],_,_,_,_,_,h,i,x,hx=>by obtain ⟨rfl,_⟩:=h;simp at hx
 |o::rest,_,_,_,_,_,h,i,x,hx=>by
  obtain ⟨y,xs,rfl,ho,_,_,Uy,h⟩:=h
  cases i with
  |zero=>simp at hx;subst hx;exact ⟨by simp [ho],Uy⟩
  |succ i=>exact ov h i x (by simpa using hx)
theorem uW {P:Program} {ops:Array Oper} {x:Tr} (h:x.ok P ops):x.s.length≤x.fE.length:=by
 obtain ⟨o,t,s,e,l,kc⟩:=x
 replace h:=h.1
 have Xf:∀ {e0:jB},e=some e0→jH P o (cJ t) s e0→s.length≤(⟨o,t,s,e,l,kc⟩:Tr).fE.length:=by
  intro e0 he h0
  subst he
  cases e0 with
  |pure d=>exact aar _
  |read i ob d=>exact aar _
  |iU i j d=>exact aar _
  |gK i ob ob' d=>simp [Tr.fE]
  |new ob mk=>simp [Tr.fE]
  |all s' d=>exact h0.1
 unfold Tr.MI at h
 simp only at h
 split at h
 ·obtain ⟨e0,he,h0⟩:=h;exact Xf he h0
 ·obtain ⟨b,_,⟨_,e0,he,h0⟩|⟨_,rfl⟩⟩|⟨_,rfl⟩:=h
  ·exact Xf he h0
  ·exact aar _
  ·exact aar _
theorem jW {P:Program} {ops:Array Oper} :∀ {rest:List Oper} {t:List D} {s:List Ob} {tr:List Tr} {t':List D} {s':List Ob},Trace P ops rest t s tr t' s'→s.length≤s'.length
 | [],_,_,_,_,_,h=>by obtain ⟨_,_,rfl⟩:=h;exact aar _
 |o::rest,_,_,_,_,_,h=>by
  obtain ⟨x,xs,rfl,_,_,rfl,Uy,h⟩:=h
  exact Nat.le_trans (uW Uy) (jW h)
theorem nU (acc:List Nat):∀(es:List Edge) (m k:Nat),(es.foldl (fun m e=>match Region.binds .any e with|true=>m|||(1<<<e.on)|||acc.getD e.on 0|false=>m) m).testBit k=true→
  m.testBit k=true∨∃e∈es,Region.binds .any e=true∧(k=e.on∨(acc.getD e.on 0).testBit k=true)
 | [],m,k,h=> .inl h
 |e::es,m,k,h=>by
  rw [List.foldl_cons] at h
  rcases nU acc es _ k h with h|⟨e',he,h1,h2⟩
  ·split at h
   ·rename_i hb
    rw [Nat.testBit_or,Nat.testBit_or,aax,aax] at h
    rcases h with (h|h)|h
    ·exact .inl h
    ·refine .inr ⟨e,by simp,hb,.inl ?_⟩
     rw [Nat.one_shiftLeft,Nat.testBit_two_pow] at h
     exact (of_decide_eq_true h).symm
    ·exact .inr ⟨e,by simp,hb,.inr h⟩
   ·exact .inl h
  ·exact .inr ⟨e',by simp [he],h1,h2⟩
def yF (o:Oper) (acc:List Nat):Nat:=o.after.toList.foldl (fun m e=>match Region.binds .any e with|true=>m|||(1<<<e.on)|||acc.getD e.on 0|false=>m) 0
theorem jv:∀(rest:List Oper) (acc:List Nat),(iL rest acc).length=acc.length+rest.length∧(iL rest acc).take acc.length=acc∧
  ∀(j:Nat) (o:Oper),rest[j]? =some o→(iL rest acc)[acc.length+j]? =some (yF o ((iL rest acc).take (acc.length+j)))
 | [],acc=>⟨by simp [iL],by simp [iL],fun j o h=>by simp at h⟩
 |o::rest,acc=>by
  have ih:=jv rest (acc++ [yF o acc])
  have hun:iL (o::rest) acc=iL rest (acc++ [yF o acc]):=rfl
  rw [hun]
  obtain ⟨h1,h2,h3⟩:=ih
  have XH:(iL rest (acc++ [yF o acc])).take acc.length=acc:=by
   have:=congrArg (fun l=>l.take acc.length) h2
   simp only [aap,abl,List.take_take] at this
   rw [show min acc.length (acc.length+1)=acc.length by omega] at this
   rw [this]
   simp
  refine ⟨by rw [h1];simp;omega,XH,fun j q hq=> ?_⟩
  cases j with
  |zero=>
   simp at hq
   subst hq
   rw [Nat.add_zero,XH]
   have:=congrArg (fun l=>l[acc.length]?) h2
   simp only [aap,abl,List.getElem?_take] at this
   rw [if_pos (by omega)] at this
   rw [this]
   simp
  |succ j=>
   have:=h3 j q (by simpa using hq)
   simp only [aap,abl] at this
   rw [show acc.length+1+j=acc.length+(j+1) by omega] at this
   exact this
def EX (ops:Array Oper) (L:Nat→Bool) (j:Nat):Prop:= ∀o,ops[j]? =some o→∀e∈o.after.toList,Region.binds .any e=true→L e.on=true
def closed (ops:Array Oper) (L:Nat→Bool):Prop:= ∀i,L i=true→EX ops L i
theorem reach {ops:Array Oper} {L:Nat→Bool} (hc:closed ops L):∀(n j:Nat),j≤n→EX ops L j→∀k,((iL ops.toList []).getD j 0).testBit k=true→L k=true:=by
 intro n
 induction n with
 |zero=>
  intro j hj hp k hk
  obtain rfl:j=0:=by omega
  cases ho:ops[0]? with
  |none=>
   have hlen:=(jv ops.toList []).1
   have:(iL ops.toList [])[0]? =none:=by
    rw [List.getElem?_eq_none_iff,hlen,aaC,aaY,aaX]
    exact Array.getElem?_eq_none_iff.1 ho
   rw [aaf,this] at hk
   simp at hk
  |some o=>
   have h:=(jv ops.toList []).2.2 0 o (by rw [aaB];exact ho)
   simp only [aaC,aaY,List.take_zero] at h
   rw [aaf,h,aa9] at hk
   rcases nU _ _ _ _ hk with h0|⟨e,he,h1,h2⟩
   ·simp at h0
   ·rcases h2 with rfl|h2
    ·exact hp o ho e he h1
    ·simp at h2
 |succ n ih=>
  intro j hj hp k hk
  cases ho:ops[j]? with
  |none=>
   have hlen:=(jv ops.toList []).1
   have:(iL ops.toList [])[j]? =none:=by
    rw [List.getElem?_eq_none_iff,hlen,aaC,aaY,aaX]
    exact Array.getElem?_eq_none_iff.1 ho
   rw [aaf,this] at hk
   simp at hk
  |some o=>
   have h:=(jv ops.toList []).2.2 j o (by rw [aaB];exact ho)
   simp only [aaC,aaY] at h
   rw [aaf,h,aa9] at hk
   rcases nU _ _ _ _ hk with h0|⟨e,he,h1,h2⟩
   ·simp at h0
   ·have hL:=hp o ho e he h1
    rcases h2 with rfl|h2
    ·exact hL
    ·rw [aaf,List.getElem?_take] at h2
     split at h2
     ·rename_i T1
      refine ih e.on (by omega) (hc _ hL) k ?_
      rw [aaf]
      exact h2
     ·simp at h2
section
variable (tr:List Tr) (t0:List D) (σ0:Nat→Ob)
def dK (x:Tr) (id:Nat):Prop:=match x.e with
  |some (.gK i _ _ _)=>id=i
  |some (.new _ _)=>id=x.s.length
  |some (.all _ _)=>id∉x.k
  |_=>False
def gz (L:Nat→Bool):Nat→List D
  |0=>t0
  |k+1=>match L k,tr[k]? with
    |true,some x=>put (gz L k) x.o.dst x.val
    |_,_=>gz L k
def cS (L:Nat→Bool):Nat→Nat→Ob
  |0=>σ0
  |k+1=>match L k,tr[k]? with
    |true,some x=>match x.e with
      |some (.gK i _ o' _)=>gK (cS L k) i o'
      |some (.new o' _)=>gK (cS L k) x.s.length o'
      |some (.all s' _)=>fun id=>if id∈x.k then cS L k id else bJ s' id
      |_=>cS L k
    |_,_=>cS L k
theorem jn {t:List D} {dst:Option Nat} {d:D} {i:Nat} (h:dst≠some i):(put t dst d)[i]? =t[i]? :=by
 cases dst with
 |none=>rfl
 |some j=>exact abn (fun e=>h (by rw [e]))
theorem CE (t:List D) (dst:Option Nat) (d:D):(put t dst d).length=t.length:=by cases dst<;>simp [put]
theorem ij (L:Nat→Bool):∀k,(gz tr t0 L k).length=t0.length
 |0=>rfl
 |k+1=>by
  unfold gz
  split
  ·rw [CE,ij L k]
  ·exact ij L k
theorem kG {L L':Nat→Bool} {i:Nat} :∀k,(∀j x,j<k→tr[j]? =some x→x.o.dst=some i→L j=L' j)→(gz tr t0 L k)[i]? =(gz tr t0 L' k)[i]?
 |0,_=>rfl
 |k+1,h=>by
  have ih:=kG (L:=L) (L':=L') (i:=i) k (fun j x hj=>h j x (by omega))
  have hlen:(gz tr t0 L k).length=(gz tr t0 L' k).length:=by rw [ij,ij]
  unfold gz
  cases hx:tr[k]? with
  |none=>cases L k<;>cases L' k<;>exact ih
  |some x=>
   by_cases hd:x.o.dst=some i
   ·rw [h k x (by omega) hx hd]
    cases L' k
    ·exact ih
    ·simp only [hd,put,List.getElem?_set,hlen,if_true]
   ·cases L k<;>cases L' k<;>simp only []<;>first|exact ih|(rw [jn hd];exact ih)|(rw [jn hd,jn hd];exact ih)
theorem nX {L:Nat→Bool} {i:Nat} (m:Nat):∀k,m≤k→(∀j x,m≤j→j<k→tr[j]? =some x→x.o.dst=some i→L j=false)→(gz tr t0 L k)[i]? =(gz tr t0 L m)[i]?
 |0,hm,_=>by
  have e:m=0:=by omega
  subst e
  rfl
 |k+1,hm,h=>by
  by_cases e:m=k+1
  ·subst e;rfl
  ·have ih:=nX m k (by omega) (fun j x h1 h2=>h j x h1 (by omega))
   conv=>lhs;unfold gz
   cases hx:tr[k]? with
   |none=>cases L k<;>exact ih
   |some x=>
    by_cases hd:x.o.dst=some i
    ·rw [h k x (by omega) (by omega) hx hd];exact ih
    ·cases L k
     ·exact ih
     ·simp only [];rw [jn hd];exact ih
theorem jt {L L':Nat→Bool} {id:Nat} :∀k,(∀j x,j<k→tr[j]? =some x→dK x id→L j=L' j)→cS tr σ0 L k id=cS tr σ0 L' k id
 |0,_=>rfl
 |k+1,h=>by
  have ih:=jt (L:=L) (L':=L') (id:=id) k (fun j x hj=>h j x (by omega))
  unfold cS
  cases hx:tr[k]? with
  |none=>cases L k<;>cases L' k<;>exact ih
  |some x=>
   have hk:=h k x (by omega) hx
   unfold dK at hk
   cases he:x.e with
   |none=>cases L k<;>cases L' k<;>simp only [he]<;>exact ih
   |some e=>
    rw [he] at hk
    cases e with
    |pure d=>cases L k<;>cases L' k<;>simp only [he]<;>exact ih
    |read i o d=>cases L k<;>cases L' k<;>simp only [he]<;>exact ih
    |iU i j d=>cases L k<;>cases L' k<;>simp only [he]<;>exact ih
    |gK i o o' d=>
     by_cases e1:id=i
     ·rw [hk e1];cases L' k<;>simp only [he,gK,e1,if_true]<;>(try exact e1▸ih)
     ·cases L k<;>cases L' k<;>simp only [he,gK,e1,if_false]<;>exact ih
    |new o' mk=>
     by_cases e1:id=x.s.length
     ·rw [hk e1];cases L' k<;>simp only [he,gK,e1,if_true]<;>(try exact e1▸ih)
     ·cases L k<;>cases L' k<;>simp only [he,gK,e1,if_false]<;>exact ih
    |all s' d=>
     by_cases e1:id∈x.k
     ·cases L k<;>cases L' k<;>simp only [he,e1,if_true]<;>exact ih
     ·rw [hk e1];cases L' k<;>simp only [he,e1,if_false];exact ih
theorem ke {L:Nat→Bool} {id:Nat} (m:Nat):∀k,m≤k→(∀j x,m≤j→j<k→tr[j]? =some x→dK x id→L j=false)→cS tr σ0 L k id=cS tr σ0 L m id
 |0,hm,_=>by
  have e:m=0:=by omega
  subst e
  rfl
 |k+1,hm,h=>by
  by_cases e:m=k+1
  ·subst e;rfl
  ·have ih:=ke m k (by omega) (fun j x h1 h2=>h j x h1 (by omega))
   conv=>lhs;unfold cS
   cases hx:tr[k]? with
   |none=>cases L k<;>exact ih
   |some x=>
    have hk:=h k x (by omega) (by omega) hx
    unfold dK at hk
    cases hL:L k with
    |false=>exact ih
    |true=>
     rw [hL] at hk
     simp only []
     cases he:x.e with
     |none=>exact ih
     |some e=>
      rw [he] at hk
      cases e with
      |pure d=>exact ih
      |read i o d=>exact ih
      |iU i j d=>exact ih
      |gK i o o' d=>
       by_cases e1:id=i
       ·exact absurd (hk e1) (by simp)
       ·simp only [gK,e1,if_false];exact ih
      |new o' mk=>
       by_cases e1:id=x.s.length
       ·exact absurd (hk e1) (by simp)
       ·simp only [gK,e1,if_false];exact ih
      |all s' d=>
       by_cases e1:id∈x.k
       ·simp only [e1,if_true];exact ih
       ·exact absurd (hk e1) (by simp)
end
theorem tB {P:Program} {ops:Array Oper} :∀ {rest:List Oper} {t:List D} {s:List Ob} {tr:List Tr} {t':List D} {s':List Ob},Trace P ops rest t s tr t' s'→
  (∀(i:Nat) (x:Tr),tr[i]? =some x→gz tr t (fun _=>true) i=x.t∧cS tr (bJ s) (fun _=>true) i=bJ x.s∧s.length≤x.s.length∧x.fE.length≤s'.length∧
   (∀(j:Nat) (y:Tr),j<i→tr[j]? =some y→y.fE.length≤x.s.length)∧(∀id,s.length≤id→id<x.s.length→∃j y,j<i∧tr[j]? =some y∧y.s.length≤id∧id<y.fE.length))∧
  gz tr t (fun _=>true) tr.length=t'∧cS tr (bJ s) (fun _=>true) tr.length=bJ s'
 | [],t,s,tr,t',s',h=>by
  obtain ⟨rfl,rfl,rfl⟩:=h
  exact ⟨fun i x hx=>by simp at hx,rfl,rfl⟩
 |o::rest,t,s,tr,t',s',h=>by
  obtain ⟨x,xs,rfl,rfl,rfl,rfl,Uy,h⟩:=h
  obtain ⟨ih,ih1,ih2⟩:=tB h
  have Z2:=uW Uy
  have WH:∀k,gz (x::xs) x.t (fun _=>true) (k+1)=gz xs x.Fm (fun _=>true) k:=by
   intro k
   induction k with
   |zero=>rfl
   |succ k ihk=>
    conv=>lhs;unfold gz
    conv=>rhs;unfold gz
    simp only [abf]
    cases xs[k]? with
    |none=>exact ihk
    |some y=>simp only [];rw [ihk]
  have Ul:cS (x::xs) (bJ x.s) (fun _=>true) 1=bJ x.fE:=by
   unfold cS cS
   simp only [List.getElem?_cons_zero]
   unfold Tr.fE
   cases he:x.e with
   |none=>rfl
   |some e=>
    cases e with
    |pure d=>rfl
    |read i o d=>rfl
    |iU i j d=>rfl
    |gK i ob ob' d=>
     have:i<x.s.length:=by
      replace Uy:=Uy.1
      unfold Tr.MI at Uy
      rw [he] at Uy
      split at Uy
      ·obtain ⟨e0,h0,h1⟩:=Uy;cases h0;exact h1.1.2
      ·obtain ⟨b,_,⟨_,e0,h0,h1⟩|⟨_,h0⟩⟩|⟨_,h0⟩:=Uy
       ·cases h0;exact h1.1.2
       ·cases h0
       ·cases h0
     simp only []
     rw [mu this]
    |new ob mk=>simp only [];rw [pG]
    |all s2 d=>
     have hk:=Uy.2
     unfold Tr.QV at hk
     rw [he] at hk
     simp only []
     funext id
     by_cases e1:id∈x.k
     ·rw [if_pos e1];exact (hk.1 id e1).2
     ·rw [if_neg e1]
  have Wr:∀k,cS (x::xs) (bJ x.s) (fun _=>true) (k+1)=cS xs (bJ x.fE) (fun _=>true) k:=by
   intro k
   induction k with
   |zero=>exact Ul
   |succ k ihk=>
    conv=>lhs;unfold cS
    conv=>rhs;unfold cS
    simp only [abf]
    cases xs[k]? with
    |none=>exact ihk
    |some y=>simp only [];rw [ihk]
  refine ⟨fun i y hy=> ?_,by rw [aaw,WH];exact ih1,by rw [aaw,Wr];exact ih2⟩
  cases i with
  |zero=>
   simp at hy
   subst hy
   exact ⟨rfl,rfl,aar _,jW h,fun j y hj=>by omega,fun id h1 h2=>by omega⟩
  |succ i=>
   obtain ⟨a1,a2,a3,a4,a5,a6⟩:=ih i y (by simpa using hy)
   refine ⟨by rw [WH];exact a1,by rw [Wr];exact a2,by omega,a4,?_,?_⟩
   ·intro j z hj hz
    cases j with
    |zero=>simp at hz;subst hz;exact a3
    |succ j=>exact a5 j z (by omega) (by simpa using hz)
   ·intro id h1 h2
    rcases aaA id x.fE.length with q|q
    ·exact ⟨0,x,by omega,rfl,h1,q⟩
    ·obtain ⟨j,z,b1,b2,b3,b4⟩:=a6 id q h2
     exact ⟨j+1,z,by omega,by simpa using b2,b3,b4⟩
theorem tx {ops:Array Oper} {tr:List Tr} (h:nW ops ((tr.map Tr.fp).reverse++ [])=true):
  tr.length=ops.size∧(∀(j:Nat) (o:Oper),ops[j]? =some o→∀e∈o.after.toList,Region.binds .any e=true→e.on<j)∧
  ∀(i j:Nat) (x y:Tr) (ox oy:Oper),i<j→tr[i]? =some x→tr[j]? =some y→ops[i]? =some ox→ops[j]? =some oy→((iL ops.toList []).getD j 0).testBit i=true∨(share ops ox oy=false∧iq x.fp y.fp=false):=by
 unfold nW at h
 simp only [List.append_nil,List.reverse_reverse,List.length_map,aaX,aae,aaG,List.all_eq_true,List.mem_range] at h
 obtain ⟨hl,h⟩:=h
 refine ⟨hl,?_,?_⟩
 ·intro j o ho e he hb
  have hj:j<ops.size:=by
   rcases aaA j ops.size with q|q
   ·exact q
   ·simp [aaW q] at ho
  have:=(h j hj).1
  rw [aaB,ho] at this
  simp only [Array.all_eq_true_iff_forall_mem] at this
  have h1:=this e (by simpa using he)
  rw [hb] at h1
  simp only [Bool.not_true,Bool.false_or] at h1
  exact Nat.lt_of_succ_le (by simpa [Nat.blt,Nat.ble_eq] using h1)
 ·intro i j x y ox oy hij hx hy YJ ZH
  have hj:j<ops.size:=by
   rcases aaA j ops.size with q|q
   ·exact q
   ·simp [aaW q] at ZH
  have:=(h j hj).2 i hij
  rw [aaB,aaB,YJ,ZH] at this
  simp only [aaf,List.getElem?_map,hx,hy,abv,aa9,aax,aae,aaK] at this
  rw [aaf]
  exact this
theorem nn {i:Nat} :∀ {l:List Nat},jy i l=true↔i∈l
 | []=>by simp [jy]
 |a::r=>by
  unfold jy
  split
  ·rename_i h;rw [aaG] at h;subst h;simp
  ·rename_i h
   rw [nn]
   have:a≠i:=fun e=>by subst e;simp at h
   simp [Ne.symm this]
theorem AQ {i j:Nat} :∀ {l:List (Nat×Nat)},C1 i j l=true↔(i,j)∈l
 | []=>by simp [C1]
 |(a,b)::r=>by
  unfold C1
  split
  ·rename_i h1 h2
   rw [aaG] at h1 h2
   subst h1 h2
   simp
  ·rename_i h
   rw [AQ,abj]
   refine ⟨.inr,fun q=> ?_⟩
   rcases q with e|q
   ·cases e
    exact (h (Nat.beq_refl i) (Nat.beq_refl j)).elim
   ·exact q
theorem iR {z:Tr} {id:Nat} (h:dK z id):z.fp= .wr id∨z.fp= .nw id∨∃l kc,z.fp= .all l kc∧id∉l:=by
 unfold dK at h
 unfold Tr.fp
 cases he:z.e with
 |none=>rw [he] at h;exact h.elim
 |some e=>
  rw [he] at h
  cases e with
  |pure d=>exact h.elim
  |read i o d=>exact h.elim
  |iU i j d=>exact h.elim
  |gK i o o' d=>subst h;exact .inl rfl
  |new o mk=>subst h;exact .inr (.inl rfl)
  |all s d=>exact .inr (.inr ⟨z.k,z.kc,rfl,h⟩)
theorem FB {z:Tr} {id:Nat} (h1:z.s.length≤id) (h2:id<z.fE.length):z.fp= .nw id∨∃l kc,z.fp= .all l kc:=by
 unfold Tr.fE at h2
 unfold Tr.fp
 cases he:z.e with
 |none=>rw [he] at h2;simp at h2;omega
 |some e=>
  rw [he] at h2
  cases e with
  |pure d=>simp at h2;omega
  |read i o d=>simp at h2;omega
  |iU i j d=>simp at h2;omega
  |gK i o o' d=>simp at h2;omega
  |new o mk=>
   simp at h2
   have e:id=z.s.length:=by omega
   subst e
   exact .inl rfl
  |all s d=>exact .inr ⟨_,_,rfl⟩
section
variable {P:Program} {ops:Array Oper} {t0:List D} {s0:List Ob} {tr:List Tr} {tn:List D} {sn:List Ob} {w0:eJ} {M0:MM} {df:List Deferred}
structure NJ (df:List Deferred) (P:Program) (ops:Array Oper) (t0:List D) (s0:List Ob) (tr:List Tr) (w0:eJ) (M0:MM) (L:Nat→Bool) (M:MM) (own:Nat→Option Nat) (w:World) (a:Act):Prop where
  cl:closed ops L
  rel:ca w0 M own (cS tr (bJ s0) L ops.size) w
  zl:cy M (gz tr t0 L ops.size) a.tmps
  defers:a.defers=df
  live:∀id,(M.box id≠none∨∃v,M.bX id v≠none)→id<s0.length∨∃(j:Nat) (y:Tr),L j=true∧tr[j]? =some y∧y.s.length≤id∧id<y.fE.length
  le:M0.Le M
def jQ (L:Nat→Bool) (i:Nat):Nat→Bool:=fun j=>if j=i then true else L j
theorem Gi (WU:Trace P ops ops.toList t0 s0 tr tn sn) (hd:nW ops ((tr.map Tr.fp).reverse++ [])=true) {L:Nat→Bool} {M:MM} {own:Nat→Option Nat} {w:World} {a:Act} (inv:NJ df P ops t0 s0 tr w0 M0 L M own w a)
  {i:Nat} {x:Tr} (hx:tr[i]? =some x) (XY:L i=false) (hp:EX ops L i) {Q:Exit→Act→World→Prop} {K:Act→World→Prop}
  (hK:∀M' TW w' a',NJ df P ops t0 s0 tr w0 M0 (jQ L i) M' TW w' a'→K a' w'):∀rr,wpOpIn (FW rr) 0 P ops Q i K a w:=by
 intro rr
 obtain ⟨hlen,hedge,hpair⟩:=tx hd
 obtain ⟨US,_,_⟩:=tB WU
 obtain ⟨WX,Uy⟩:=ov WU i x hx
 have V0:ops[i]? =some x.o:=by rw [← aaB];exact WX
 have Va:∀ {j:Nat} {y:Tr},tr[j]? =some y→ops[j]? =some y.o:=fun {j y} hy=>by rw [← aaB];exact (ov WU j y hy).1
 have Ue:i<ops.size:=by
  rcases aaA i ops.size with q|q
  ·exact q
  ·simp [aaW q] at V0
 obtain ⟨aT,aS,a3,a4,a5,a6⟩:=US i x hx
 have before:∀ {j:Nat} {y:Tr},j<i→tr[j]? =some y→(share ops y.o x.o=true∨iq y.fp x.fp=true)→L j=true:=by
  intro j y hj hy hc
  rcases hpair j i y x _ _ hj hy hx (Va hy) V0 with h|⟨h1,h2⟩
  ·exact reach inv.cl i i (aar _) hp j h
  ·rcases hc with hc|hc
   ·rw [h1] at hc;cases hc
   ·rw [h2] at hc;cases hc
 have after:∀ {j:Nat} {y:Tr},i<j→tr[j]? =some y→(share ops x.o y.o=true∨iq x.fp y.fp=true)→L j=false:=by
  intro j y hj hy hc
  rcases hpair i j x y _ _ hj hx hy V0 (Va hy) with h|⟨h1,h2⟩
  ·cases e:L j with
   |false=>rfl
   |true=>
    have:=reach inv.cl j j (aar _) (inv.cl j e) i h
    rw [XY] at this;cases this
  ·rcases hc with hc|hc
   ·rw [h1] at hc;cases hc
   ·rw [h2] at hc;cases hc
 have Vl:∀ {f g:FP} {id:Nat},(f= .wr id∨f= .nw id∨∃l kc,f= .all l kc∧id∉l)→(g= .rd id∨g= .wr id∨g= .nw id∨∃l kc,g= .all l kc)→iq f g=true:=by
  intro f g id h1 h2
  rcases h1 with rfl|rfl|⟨l,kc,rfl,hl⟩<;>rcases h2 with rfl|rfl|rfl|⟨l',kc',rfl⟩<;>simp [iq]
  cases e:jy id l
  ·rfl
  ·exact absurd (nn.1 e) hl
 have VH:∀ {f g:FP} {id:Nat},(f= .rd id∨f= .wr id∨f= .nw id∨∃l kc,f= .all l kc)→(g= .wr id∨g= .nw id∨∃l kc,g= .all l kc∧id∉l)→iq f g=true:=by
  intro f g id h1 h2
  rcases h1 with rfl|rfl|rfl|⟨l',kc',rfl⟩<;>rcases h2 with rfl|rfl|⟨l,kc,rfl,hl⟩<;>simp [iq]
  cases e:jy id l
  ·rfl
  ·exact absurd (nn.1 e) hl
 have F1:∀y,y∈sO ops x.o→(gz tr t0 L ops.size)[y]? =x.t[y]? :=by
  intro y hy
  rw [nX tr t0 (L:=L) (i:=y) i ops.size (by omega) (fun j z h1 h2 hz Vs=>by
   rcases Nat.lt_or_eq_of_le h1 with h|h
   ·refine after h hz (.inl ?_)
    unfold share
    rw [Vs]
    simp only [aax]
    right
    simpa using hy
   ·rw [← h];exact XY)]
  rw [kG tr t0 (L:=L) (L':=fun _=>true) (i:=y) i (fun j z hj hz Vs=>by
   refine before hj hz (.inl ?_)
   unfold share
   rw [Vs]
   simp only [aax]
   left;left
   simpa using hy),aT]
 have WM:∀y∈x.o.op.operands,cJ (gz tr t0 L ops.size) y=cJ x.t y:=by
  intro y hy
  cases y with
  |tmp k=>
   have:k∈sO ops x.o:=by
    unfold sO I9
    refine List.mem_append.2 (.inl (List.mem_filterMap.2 ⟨.tmp k,by simpa using hy,rfl⟩))
   show List.getD _ _ _=List.getD _ _ _
   rw [aaf,aaf,F1 k this]
  |const v=>rfl
  |global g=>rfl
  |func f=>rfl
 have T0:∀y∈x.o.op.operands,b7 M (cJ x.t y) (a.eval y):=fun y hy=>by rw [← WM y hy];exact oM inv.zl y
 have F2:∀id,(x.fp= .rd id∨x.fp= .wr id∨x.fp= .nw id∨∃l kc,x.fp= .all l kc)→cS tr (bJ s0) L ops.size id=bJ x.s id:=by
  intro id VA
  rw [ke tr (bJ s0) (L:=L) (id:=id) i ops.size (by omega) (fun j z h1 h2 hz ht=>by
   rcases Nat.lt_or_eq_of_le h1 with h|h
   ·exact after h hz (.inr (VH VA (iR ht)))
   ·rw [← h];exact XY)]
  rw [jt tr (bJ s0) (L:=L) (L':=fun _=>true) (id:=id) i (fun j z hj hz ht=>before hj hz (.inr (Vl (iR ht) VA))),aS]
 have order:∀ {id a b:Nat} {y z:Tr},a<b→tr[a]? =some y→tr[b]? =some z→dK y id→dK z id→L b=true→L a=true:=by
  intro id a b y z hab hy hz ty tz hLb
  have hc:iq y.fp z.fp=true:=Vl (iR ty) (by
   rcases iR tz with q|q|⟨l,kc,q,_⟩
   ·exact .inr (.inl q)
   ·exact .inr (.inr (.inl q))
   ·exact .inr (.inr (.inr ⟨l,kc,q⟩)))
  rcases hpair a b y z _ _ hab hy hz (Va hy) (Va hz) with h|⟨_,h2⟩
  ·exact reach inv.cl b b (aar _) (inv.cl b hLb) a h
  ·rw [h2] at hc;cases hc
 have F3:∀id j,x.fp= .uj id j→hG (cS tr (bJ s0) L ops.size id) j=hG (bJ x.s id) j:=by
  intro id j VA
  obtain ⟨m,hm1,YK⟩:∃m,(∀k y,m≤k→tr[k]? =some y→dK y id→L k=false)∧∀k y,k<m→tr[k]? =some y→dK y id→L k=true:=by
   have key:∀n,(∀k y,n≤k→tr[k]? =some y→dK y id→L k=false)→∃m,(∀k y,m≤k→tr[k]? =some y→dK y id→L k=false)∧∀k y,k<m→tr[k]? =some y→dK y id→L k=true:=by
    intro n
    induction n with
    |zero=>exact fun h=>⟨0,h,fun k y hk=>by omega⟩
    |succ n ih=>
     intro h
     by_cases hn:∃y,tr[n]? =some y∧dK y id∧L n=true
     ·obtain ⟨y,hy,ty,hLn⟩:=hn
      refine ⟨n+1,h,fun k z hk hz tz=> ?_⟩
      rcases Nat.lt_or_eq_of_le (Nat.le_of_lt_succ hk) with q|q
      ·exact order q hz hy tz ty hLn
      ·subst q;exact hLn
     ·refine ih fun k y hk hy ty=> ?_
      rcases Nat.lt_or_eq_of_le hk with q|q
      ·exact h k y q hy ty
      ·subst q
       cases e:L n with
       |false=>rfl
       |true=>exact absurd ⟨y,hy,ty,e⟩ hn
   exact key tr.length fun k y hk hy=>by rw [aam hk] at hy;cases hy
  have still:∀k y,tr[k]? =some y→((m≤k∧k<i)∨(i≤k∧k<m))→hG (cS tr (bJ s0) (fun _=>true) (k+1) id) j=hG (cS tr (bJ s0) (fun _=>true) k id) j:=by
   intro k y hy hk
   by_cases ty:dK y id
   ·have UK:iq y.fp x.fp=false∧iq x.fp y.fp=false:=by
     rcases hk with ⟨h1,h2⟩|⟨h1,h2⟩
     ·have hL:=hm1 k y h1 hy ty
      have:iq y.fp x.fp=false:=by
       cases e:iq y.fp x.fp with
       |false=>rfl
       |true=>rw [before h2 hy (.inr e)] at hL;cases hL
      refine ⟨this,?_⟩
      rw [VA] at this ⊢
      rcases iR ty with q|q|⟨l,kc,q,_⟩
      ·rw [q,show iq (.wr id) (.uj id j)=true from Nat.beq_refl id] at this;cases this
      ·rw [q,show iq (.nw id) (.uj id j)=true from Nat.beq_refl id] at this;cases this
      ·rw [q] at this ⊢;exact this
     ·have hL:=YK k y h2 hy ty
      have Ut:i≠k:=fun e=>by subst e;rw [XY] at hL;cases hL
      have:iq x.fp y.fp=false:=by
       cases e:iq x.fp y.fp with
       |false=>rfl
       |true=>rw [after (by omega) hy (.inr e)] at hL;cases hL
      refine ⟨?_,this⟩
      rw [VA] at this ⊢
      rcases iR ty with q|q|⟨l,kc,q,_⟩
      ·rw [q,show iq (.uj id j) (.wr id)=true from Nat.beq_refl id] at this;cases this
      ·rw [q,show iq (.uj id j) (.nw id)=true from Nat.beq_refl id] at this;cases this
      ·rw [q] at this ⊢;exact this
    have hc:=UK.2
    rw [VA] at hc
    rcases iR ty with q|q|⟨l,kc,q,hl⟩
    ·rw [q,show iq (.uj id j) (.wr id)=true from Nat.beq_refl id] at hc;cases hc
    ·rw [q,show iq (.uj id j) (.nw id)=true from Nat.beq_refl id] at hc;cases hc
    ·rw [q] at hc
     have V3:(id,j)∈kc:=by
      cases e:C1 id j kc with
      |true=>exact AQ.1 e
      |false=>
       have e2:jy id l=false:=by
        cases e3:jy id l with
        |false=>rfl
        |true=>exact absurd (nn.1 e3) hl
       simp [iq,e,e2] at hc
     obtain ⟨_,hoky⟩:=ov WU k y hy
     obtain ⟨_,yS,_,_,_,_⟩:=US k y hy
     have W0:=hoky.2
     unfold Tr.fp at q
     unfold Tr.QV at W0
     cases he:y.e with
     |none=>rw [he] at q;cases q
     |some e=>
      rw [he] at q W0
      cases e with
      |all s' d=>
       simp only at q W0
       cases q
       have W4:=W0.2 id j V3
       have e1:cS tr (bJ s0) (fun _=>true) (k+1) id=bJ s' id:=by
        conv=>lhs;unfold cS
        simp only [hy,he,if_neg hl]
       rw [e1,yS]
       exact W4.symm
      |_=>cases q
   ·have e1:cS tr (bJ s0) (fun _=>true) (k+1) id=cS tr (bJ s0) (fun _=>true) k id:=
     ke tr (bJ s0) (L:=fun _=>true) (id:=id) k (k+1) (by omega) (fun j' z h1 h2 hz tz=>by
      obtain rfl:j'=k:=by omega
      rw [hy] at hz
      obtain rfl:=aad hz
      exact absurd tz ty)
    rw [e1]
  have walk:∀n a,(∀k,a≤k→k<a+n→(m≤k∧k<i)∨(i≤k∧k<m))→a+n≤tr.length→hG (cS tr (bJ s0) (fun _=>true) (a+n) id) j=hG (cS tr (bJ s0) (fun _=>true) a id) j:=by
   intro n
   induction n with
   |zero=>intro a _ _;rfl
   |succ n ih=>
    intro a h hl
    rw [← Nat.add_assoc,still (a+n) _ (List.getElem?_eq_getElem (by omega)) (h (a+n) (by omega) (by omega))]
    exact ih a (fun k h1 h2=>h k h1 (by omega)) (by omega)
  have ZS:i<tr.length:=by
   rcases aaA i tr.length with q|q
   ·exact q
   ·rw [aam q] at hx;cases hx
  have Zb:cS tr (bJ s0) L ops.size id=cS tr (bJ s0) (fun _=>true) (min m tr.length) id:=by
   rw [ke tr (bJ s0) (L:=L) (id:=id) (min m tr.length) ops.size (by rw [← hlen];exact Nat.min_le_right ..) (fun k y h1 h2 hy ty=>by
    rcases aaA k tr.length with q|q
    ·exact hm1 k y (by omega) hy ty
    ·rw [aam q] at hy;cases hy)]
   exact jt tr (bJ s0) (L:=L) (L':=fun _=>true) (id:=id) _ (fun k y hk hy ty=>YK k y (by omega) hy ty)
  rw [Zb,← aS]
  rcases Nat.le_total (min m tr.length) i with q|q
  ·have:=walk (i - min m tr.length) (min m tr.length) (fun k h1 h2=> .inl ⟨by omega,by omega⟩) (by omega)
   rw [show min m tr.length+(i - min m tr.length)=i by omega] at this
   exact this.symm
  ·have:=walk (min m tr.length - i) i (fun k h1 h2=> .inr ⟨by omega,by omega⟩) (by omega)
   rw [show i+(min m tr.length - i)=min m tr.length by omega] at this
   exact this
 have VQ:∀ {j:Nat},j≠i→jQ L i j=L j:=fun {j} h=>by simp [jQ,h]
 have Vd:jQ L i i=true:=by simp [jQ]
 have UH:closed ops (jQ L i):=by
  intro j hj o ho e he hb
  by_cases e1:j=i
  ·subst e1
   by_cases e2:e.on=j
   ·rw [e2];exact Vd
   ·rw [VQ e2];exact hp o ho e he hb
  ·rw [VQ e1] at hj
   by_cases e2:e.on=i
   ·rw [e2];exact Vd
   ·rw [VQ e2];exact inv.cl j hj o ho e he hb
 have U0:∀ {M':MM} {v:Value},M.Le M'→b7 M' x.val v→cy M' (gz tr t0 (jQ L i) ops.size) (a.put x.o.dst v).tmps:=by
  intro M' v le hv
  have hl:=inv.zl.1
  rw [ij] at hl
  refine ⟨by rw [ij];cases x.o.dst<;>simp [Act.put,hl],fun y d u h1 h2=> ?_⟩
  by_cases e:x.o.dst=some y
  ·rw [nX tr t0 (L:=jQ L i) (i:=y) (i+1) ops.size (by omega) (fun j z q1 q2 hz Vs=>by
    rw [VQ (by omega)]
    refine after (by omega) hz (.inl ?_)
    unfold share
    rw [e]
    simp only [aax]
    left;right
    simp [Vs])] at h1
   unfold gz at h1
   simp only [Vd,hx,e,put] at h1
   rw [List.getElem?_set] at h1
   simp only [if_true] at h1
   split at h1
   ·obtain rfl:=aad h1
    simp only [e,Act.put] at h2
    rw [Array.getElem?_setIfInBounds] at h2
    simp only [if_true] at h2
    split at h2
    ·obtain rfl:=aad h2;exact hv
    ·cases h2
   ·cases h1
  ·rw [kG tr t0 (L:=jQ L i) (L':=L) (i:=y) ops.size (fun j z hj hz Vs=>VQ (fun q=>by subst q;rw [hx] at hz;obtain rfl:=aad hz;exact e Vs))] at h1
   have XH:a.tmps[y]? =some u:=by
    cases Vs:x.o.dst with
    |none=>rw [Vs] at h2;exact h2
    |some k=>
     rw [Vs] at h2
     simp only [Act.put] at h2
     rw [aa3 (fun q=>e (by rw [Vs,q]))] at h2
     exact h2
   exact (inv.zl.2 y d u h1 XH).mono le
 have Uv:∀id,¬dK x id→cS tr (bJ s0) (jQ L i) ops.size id=cS tr (bJ s0) L ops.size id:=fun id h=>
  jt tr (bJ s0) ops.size (fun j z hj hz ht=>VQ (fun q=>by subst q;rw [hx] at hz;obtain rfl:=aad hz;exact h ht))
 have Uo:∀id,dK x id→cS tr (bJ s0) (jQ L i) ops.size id=cS tr (bJ s0) (jQ L i) (i+1) id:=fun id h=>
  ke tr (bJ s0) (i+1) ops.size (by omega) (fun j z q1 q2 hz ht=>by
   rw [VQ (by omega)]
   refine after (by omega) hz (.inr (VH ?_ (iR ht)))
   rcases iR h with q|q|⟨l,kc,q,_⟩
   ·exact .inr (.inl q)
   ·exact .inr (.inr (.inl q))
   ·exact .inr (.inr (.inr ⟨l,kc,q⟩)))
 have UQ:∀id,(M.box id≠none∨∃v,M.bX id v≠none)→id<s0.length∨∃(j:Nat) (y:Tr),jQ L i j=true∧tr[j]? =some y∧y.s.length≤id∧id<y.fE.length:=by
  intro id h
  rcases inv.live id h with q|⟨j,y,q1,q2,q3,q4⟩
  ·exact .inl q
  ·exact .inr ⟨j,y,by by_cases e:j=i<;>simp [jQ,e,q1],q2,q3,q4⟩
 have V9:∀id,(x.fp= .wr id∨∃l kc,x.fp= .all l kc)→id<x.s.length→id<s0.length∨∃(j:Nat) (y:Tr),jQ L i j=true∧tr[j]? =some y∧y.s.length≤id∧id<y.fE.length:=by
  intro id VA UB
  rcases aaA id s0.length with q|q
  ·exact .inl q
  ·obtain ⟨j,y,b1,b2,b3,b4⟩:=a6 id q UB
   refine .inr ⟨j,y,?_,b2,b3,b4⟩
   rw [VQ (by omega)]
   refine before b1 b2 (.inr ?_)
   rcases FB b3 b4 with h|⟨l,kc,h⟩
   ·refine Vl (id:=id) (.inr (.inl h)) ?_
    rcases VA with h|h
    ·exact .inr (.inl h)
    ·exact .inr (.inr (.inr h))
   ·rcases VA with h2|⟨l2,kc2,h2⟩<;>rw [h,h2]<;>rfl
 have Xf:∀ {e0:jB},x.e=some e0→jH P x.o (cJ x.t) x.s e0→Mb P x.o a w K Q:=by
  intro e0 he h0
  have Uj:x.val=e0.val x.s.length:=by unfold Tr.val;rw [he]
  cases e0 with
  |pure d=>
   have Xz:∀id,¬dK x id:=fun id h=>by unfold dK at h;rw [he] at h;exact h
   refine h0 w0 M own _ w a x.s.length inv.rel T0 trivial K Q fun v M' TW w' le ad UY hr=>hK M' TW w' _ ⟨UH,?_,U0 le (by rw [Uj];exact hr),by rw [ef];exact inv.defers,?_,inv.le.trans le⟩
   ·rw [show cS tr (bJ s0) (jQ L i) ops.size=cS tr (bJ s0) L ops.size from funext fun id=>Uv id (Xz id)];exact UY
   ·intro id h;rw [ad.1,ad.2] at h;exact UQ id h
  |read k ob d=>
   have Xz:∀id,¬dK x id:=fun id h=>by unfold dK at h;rw [he] at h;exact h
   have VA:x.fp= .rd k:=by unfold Tr.fp;rw [he]
   refine h0.2 w0 M own _ w a x.s.length inv.rel T0 (by show cS _ _ _ _ k=ob;rw [F2 k (.inl VA)];exact h0.1.1) K Q fun v M' TW w' le ad UY hr=>hK M' TW w' _ ⟨UH,?_,U0 le (by rw [Uj];exact hr),by rw [ef];exact inv.defers,?_,inv.le.trans le⟩
   ·rw [show cS tr (bJ s0) (jQ L i) ops.size=cS tr (bJ s0) L ops.size from funext fun id=>Uv id (Xz id)];exact UY
   ·intro id h;rw [ad.1,ad.2] at h;exact UQ id h
  |iU k jc d=>
   have Xz:∀id,¬dK x id:=fun id h=>by unfold dK at h;rw [he] at h;exact h
   have VA:x.fp= .uj k jc:=by unfold Tr.fp;rw [he]
   refine h0.2 w0 M own _ w a x.s.length inv.rel T0 (by show hG (cS _ _ _ _ k) jc=some d;rw [F3 k jc VA];exact h0.1.1) K Q fun v M' TW w' le ad UY hr=>hK M' TW w' _ ⟨UH,?_,U0 le (by rw [Uj];exact hr),by rw [ef];exact inv.defers,?_,inv.le.trans le⟩
   ·rw [show cS tr (bJ s0) (jQ L i) ops.size=cS tr (bJ s0) L ops.size from funext fun id=>Uv id (Xz id)];exact UY
   ·intro id h;rw [ad.1,ad.2] at h;exact UQ id h
  |gK k ob ob' d=>
   have VA:x.fp= .wr k:=by unfold Tr.fp;rw [he]
   have Y3:dK x k:=by unfold dK;rw [he]
   refine h0.2 w0 M own _ w a x.s.length inv.rel T0 (by show cS _ _ _ _ k=ob;rw [F2 k (.inr (.inl VA))];exact h0.1.1) K Q fun v M' TW w' le ad UY hr=>hK M' TW w' _ ⟨UH,?_,U0 le (by rw [Uj];exact hr),by rw [ef];exact inv.defers,?_,inv.le.trans le⟩
   ·rw [show cS tr (bJ s0) (jQ L i) ops.size=jB.post (.gK k ob ob' d) (cS tr (bJ s0) L ops.size) x.s.length from funext fun id=>by
     by_cases e:id=k
     ·subst e
      rw [Uo id Y3]
      unfold cS
      simp only [Vd,hx,he,jB.post,bw]
     ·rw [Uv id (fun h=>by unfold dK at h;rw [he] at h;exact e h)]
      simp only [jB.post,br e]]
    exact UY
   ·intro id h
    by_cases e:id=k
    ·subst e;exact V9 id (.inl VA) h0.1.2
    ·rw [ad.1,ad.2 id e] at h;exact UQ id h
  |new ob mk=>
   have Y3:dK x x.s.length:=by unfold dK;rw [he]
   have Xc:x.fE.length=x.s.length+1:=by unfold Tr.fE;rw [he];simp
   have VK:¬(M.box x.s.length≠none∨∃v,M.bX x.s.length v≠none):=by
    intro h
    rcases inv.live _ h with q|⟨j,y,q1,q2,q3,q4⟩
    ·omega
    ·rcases Nat.lt_trichotomy j i with c|c|c
     ·have:=a5 j y c q2;omega
     ·subst c;rw [XY] at q1;cases q1
     ·have:=(US j y q2).2.2.2.2.1 i x c hx;omega
   have XQ:M.box x.s.length=none:=by
    cases e:M.box x.s.length with
    |none=>rfl
    |some b=>exact absurd (.inl (by rw [e];simp)) VK
   have W8:∀v,M.bX x.s.length v=none:=fun v=>by
    cases e:M.bX x.s.length v with
    |none=>rfl
    |some b=>exact absurd (.inr ⟨v,by rw [e];simp⟩) VK
   refine h0 w0 M own _ w a x.s.length inv.rel T0 ⟨XQ,W8⟩ K Q fun v M' TW w' le ad UY hr=>hK M' TW w' _ ⟨UH,?_,U0 le (by rw [Uj];exact hr),by rw [ef];exact inv.defers,?_,inv.le.trans le⟩
   ·rw [show cS tr (bJ s0) (jQ L i) ops.size=jB.post (.new ob mk) (cS tr (bJ s0) L ops.size) x.s.length from funext fun id=>by
     by_cases e:id=x.s.length
     ·subst e
      rw [Uo _ Y3]
      unfold cS
      simp only [Vd,hx,he,jB.post,bw]
     ·rw [Uv id (fun h=>by unfold dK at h;rw [he] at h;exact e h)]
      simp only [jB.post,br e]]
    exact UY
   ·intro id h
    by_cases e:id=x.s.length
    ·exact .inr ⟨i,x,Vd,hx,by omega,by omega⟩
    ·rw [ad.1 id e,ad.2 id e] at h;exact UQ id h
  |all s' d=>
   have VA:x.fp= .all x.k x.kc:=by unfold Tr.fp;rw [he]
   have hta:∀id,id∉x.k→dK x id:=fun id hk=>by unfold dK;rw [he];exact hk
   have WT:∀id∈x.k,id<x.s.length∧x.s.getD id .dead=s'.getD id .dead:=by have:=Uy.2;unfold Tr.QV at this;rw [he] at this;exact this.1
   have Xc:x.fE=s':=by unfold Tr.fE;rw [he]
   have Zw:ca w0 M own (bJ x.s) w:=by
    rw [← show cS tr (bJ s0) L ops.size=bJ x.s from funext fun id=>F2 id (.inr (.inr (.inr ⟨_,_,VA⟩)))];exact inv.rel
   have UL:∀id,x.s.length≤id→¬(M.box id≠none∨∃v,M.bX id v≠none):=by
    intro id UB h
    rcases inv.live _ h with q|⟨j,y,q1,q2,q3,q4⟩
    ·omega
    ·have hy:y.fp= .nw id∨∃l kc,y.fp= .all l kc:=FB q3 q4
     rcases Nat.lt_trichotomy j i with c|c|c
     ·have:=a5 j y c q2;omega
     ·subst c;rw [XY] at q1;cases q1
     ·have:=after c q2 (.inr (by rw [VA];rcases hy with h|⟨l,kc,h⟩<;>rw [h]<;>rfl))
      rw [q1] at this;cases this
   have VS:M.upto x.s.length:=by
    refine ⟨fun id UB=> ?_,fun id v UB=> ?_⟩
    ·cases e:M.box id with
     |none=>rfl
     |some b=>exact absurd (.inl (by rw [e];simp)) (UL id UB)
    ·cases e:M.bX id v with
     |none=>rfl
     |some b=>exact absurd (.inr ⟨v,by rw [e];simp⟩) (UL id UB)
   refine h0.2 w0 M own w a Zw VS T0 K Q fun v M' TW w' le up UY hr=>hK M' TW w' _ ⟨UH,?_,U0 le (by rw [Uj];exact hr),by rw [ef];exact inv.defers,?_,inv.le.trans le⟩
   ·rw [show cS tr (bJ s0) (jQ L i) ops.size=bJ s' from funext fun id=>by
     by_cases e1:id∈x.k
     ·rw [Uv id (fun h=>by unfold dK at h;rw [he] at h;exact h e1),F2 id (.inr (.inr (.inr ⟨_,_,VA⟩)))]
      exact (WT id e1).2
     ·rw [Uo id (hta id e1)]
      unfold cS
      simp only [Vd,hx,he,if_neg e1]]
    exact UY
   ·intro id h
    have T1:id<s'.length:=by
     rcases aaA id s'.length with q|q
     ·exact q
     ·rcases h with h|⟨v,h⟩
      ·exact absurd (up.1 id q) h
      ·exact absurd (up.2 id v q) h
    rcases aaA id x.s.length with q|q
    ·exact V9 id (.inr ⟨_,_,VA⟩) q
    ·exact .inr ⟨i,x,Vd,hx,q,by rw [Xc];exact T1⟩
 unfold wpOpIn
 rw [V0]
 simp only []
 replace Uy:=Uy.1
 unfold Tr.MI at Uy
 split at Uy
 ·rename_i hg
  obtain ⟨e0,he,h0⟩:=Uy
  have:abc x.o (yielded ops a.tmps)=true:=by simp [abc,hg]
  rw [if_pos this]
  exact Xf he h0 rr
 ·rename_i j want hg
  have V7:∀k,(ops[j]?).bind (·.dst)=some k→b7 M (x.t.getD k .undef) (a.tmps.getD k undef):=by
   intro k hk
   have:k∈sO ops x.o:=by
    unfold sO
    refine List.mem_append.2 (.inr ?_)
    rw [hg]
    cases hq:ops[j]? with
    |none=>rw [hq] at hk;cases hk
    |some q=>
     rw [hq] at hk
     simp only [abx] at hk
     simp only [hq,hk]
     simp
   have h1:=jS inv.zl k
   rw [aaf,F1 k this,← aaf] at h1
   exact h1
  have skip:x.e=none→abc x.o (yielded ops a.tmps)=false→(if abc x.o (yielded ops a.tmps) then x.o.wpIn (FW rr) 0 P a w K Q else (∀f,x.o.about P w a.eval=some f→(FW rr).fn f)∧K (a.put x.o.dst undef) w):=by
   intro he this
   rw [this]
   refine ⟨fun _ _=>trivial,?_⟩
   have Xz:∀id,¬dK x id:=fun id h=>by unfold dK at h;rw [he] at h;exact h
   have Uj:x.val= .aL []:=by unfold Tr.val;rw [he]
   refine hK M own w _ ⟨UH,?_,U0 (.refl M) (by rw [Uj];exact sr),by rw [ef];exact inv.defers,UQ,inv.le⟩
   rw [show cS tr (bJ s0) (jQ L i) ops.size=cS tr (bJ s0) L ops.size from funext fun id=>Uv id (Xz id)]
   exact inv.rel
  rcases Uy with ⟨b,hb,Uw⟩|⟨hb,he⟩
  ·have hy:yielded ops a.tmps j=some b:=vk (M:=M) (t:=x.t) V7 hb
   rcases Uw with ⟨rfl,e0,he,h0⟩|⟨Ut,he⟩
   ·have:abc x.o (yielded ops a.tmps)=true:=by simp [abc,hg,hy]
    rw [if_pos this]
    exact Xf he h0 rr
   ·exact skip he (by simp [abc,hg,hy,Ut])
  ·have hy:yielded ops a.tmps j=none:=qz (M:=M) (t:=x.t) V7 hb
   exact skip he (by simp [abc,hg,hy])
theorem pK {TX:Array Bool} (hl:TX.size=ops.size) (i:Nat):i∈Region.ready .any ops TX↔i<ops.size∧TX.getD i false=false∧EX ops (fun j=>TX.getD j false) i:=by
 unfold Region.ready
 rw [List.mem_filter,List.mem_range]
 constructor
 ·rintro ⟨h1,h2⟩
  have ho:ops[i]? =some ops[i]:=by simp [h1]
  rw [ho] at h2
  simp only [abv,aa9,aae,aaK,Array.all_eq_true_iff_forall_mem] at h2
  refine ⟨h1,?_,?_⟩
  ·have:=h2.1
   rw [aaJ] at this ⊢
   cases e:TX[i]? with
   |none=>rfl
   |some b=>rw [e] at this;exact this
  ·intro o Yx e he hb
   rw [ho] at Yx
   obtain rfl:=aad Yx
   have:=h2.2 e (by simpa using he)
   rw [hb] at this
   simpa using this
 ·rintro ⟨h1,h2,h3⟩
  refine ⟨h1,?_⟩
  have ho:ops[i]? =some ops[i]:=by simp [h1]
  rw [ho]
  simp only [abv,aa9,aae,aaK,Array.all_eq_true_iff_forall_mem]
  refine ⟨?_,fun e he=> ?_⟩
  ·rw [aaJ] at h2 ⊢
   have:TX[i]? =some TX[i]:=by simp [hl,h1]
   rw [this] at h2 ⊢
   exact h2
  ·cases hb:Region.binds .any e with
   |false=>rfl
   |true=>
    have:=h3 _ ho e (by simpa using he) hb
    simpa using this
theorem Lp (WU:Trace P ops ops.toList t0 s0 tr tn sn) (hd:nW ops ((tr.map Tr.fp).reverse++ [])=true) {Q:Exit→Act→World→Prop}
  (hq:∀M' TW w' a',M0.Le M'→M'.upto sn.length→ca w0 M' TW (bJ sn) w'→cy M' tn a'.tmps→a'.defers=df→Q .normal a' w') (rr:Option Nat):
  ∀(fuel:Nat) (TX:Array Bool) (M:MM) (own:Nat→Option Nat) (w:World) (a:Act),TX.size=ops.size→TX.toList.count false≤fuel→NJ df P ops t0 s0 tr w0 M0 (fun j=>TX.getD j false) M own w a→wpAnyIn (FW rr) 0 P .any ops Q fuel TX a w:=by
 obtain ⟨hlen,hedge,_⟩:=tx hd
 obtain ⟨US,hT,hS⟩:=tB WU
 have fin:∀ {TX:Array Bool} {M:MM} {own:Nat→Option Nat} {w:World} {a:Act},(∀j,j<ops.size→TX.getD j false=true)→NJ df P ops t0 s0 tr w0 M0 (fun j=>TX.getD j false) M own w a→Q .normal a w:=by
  intro TX M own w a VR inv
  have e1:gz tr t0 (fun j=>TX.getD j false) ops.size=tn:=by
   rw [← hT,hlen]
   apply List.ext_getElem?
   intro k
   exact kG tr t0 ops.size (fun j x hj _ _=>VR j hj)
  have e2:cS tr (bJ s0) (fun j=>TX.getD j false) ops.size=bJ sn:=by
   rw [← hS,hlen]
   funext id
   exact jt tr (bJ s0) ops.size (fun j x hj _ _=>VR j hj)
  have UL:∀id,sn.length≤id→¬(M.box id≠none∨∃v,M.bX id v≠none):=by
   intro id UB h
   rcases inv.live _ h with q|⟨j,y,q1,q2,q3,q4⟩
   ·have:=jW WU;omega
   ·have:=(US j y q2).2.2.2.1;omega
  refine hq M own w a inv.le ⟨fun id UB=> ?_,fun id v UB=> ?_⟩ (e2▸inv.rel) (e1▸inv.zl) inv.defers
  ·cases e:M.box id with
   |none=>rfl
   |some b=>exact absurd (.inl (by rw [e];simp)) (UL id UB)
  ·cases e:M.bX id v with
   |none=>rfl
   |some b=>exact absurd (.inr ⟨v,by rw [e];simp⟩) (UL id UB)
 have nothing:∀ {TX:Array Bool},TX.size=ops.size→Region.ready .any ops TX= []→∀j,j<ops.size→TX.getD j false=true:=by
  intro TX hl hr j
  induction j using Nat.strongRecOn with
  |_ j ih=>
   intro hj
   cases e:TX.getD j false with
   |true=>rfl
   |false=>
    have:j∈Region.ready .any ops TX:=(pK hl j).2 ⟨hj,e,fun o ho ed he hb=>ih ed.on (hedge j o ho ed he hb) (by have:=hedge j o ho ed he hb;omega)⟩
    rw [hr] at this
    cases this
 intro fuel
 induction fuel with
 |zero=>
  intro TX M own w a hl hc inv
  have VR:∀j,j<ops.size→TX.getD j false=true:=by
   intro j hj
   have h0:TX.toList.count false=0:=by omega
   rw [List.count_eq_zero] at h0
   have Y8:j<TX.size:=by omega
   rw [aaJ]
   have:TX[j]? =some TX[j]:=by simp [Y8]
   rw [this]
   cases e:TX[j] with
   |true=>simp
   |false=>exact absurd (by rw [← e];simp) h0
  refine ⟨?_,fin VR inv⟩
  apply List.eq_nil_iff_forall_not_mem.2
  intro i hi
  have:=(pK hl i).1 hi
  rw [VR i this.1] at this
  exact absurd this.2.1 (by simp)
 |succ fuel ih=>
  intro TX M own w a hl hc inv
  refine ⟨fun hr=>fin (nothing hl hr) inv,fun i hi=> ?_⟩
  obtain ⟨h1,h2,h3⟩:=(pK hl i).1 hi
  have hx:tr[i]? =some (tr[i]'(by omega)):=by simp [show i<tr.length by omega]
  refine Gi WU hd inv hx h2 h3 (fun M' TW w' a' Zd=>ih _ M' TW w' a' (by simp [hl]) ?_ ?_) rr
  ·have T1:i<TX.toList.length:=by simp [hl,h1]
   have U8:TX.toList[i]=false:=by
    rw [aaJ] at h2
    have:TX[i]? =some TX[i]:=by simp [hl,h1]
    rw [this] at h2
    simpa using h2
   have WR:(TX.setIfInBounds i true).toList=TX.toList.set i true:=by simp
   rw [WR,List.count_set T1]
   have Ux:0<TX.toList.count false:=List.count_pos_iff.2 (by rw [← U8];simp)
   rw [U8]
   rw [show (if (false==false)=true then 1 else 0)=1 from rfl,show (if (true==false)=true then 1 else 0)=0 from rfl]
   omega
  ·have:(fun j=>(TX.setIfInBounds i true).getD j false)=jQ (fun j=>TX.getD j false) i:=by
    funext j
    unfold jQ
    simp only [aaJ]
    by_cases e:j=i
    ·subst e;simp [hl,h1]
    ·rw [aa3 (Ne.symm e),if_neg e]
   rw [this]
   exact Zd
theorem Ai (WU:Trace P ops ops.toList t0 s0 tr tn sn) (hd:nW ops ((tr.map Tr.fp).reverse++ [])=true) (hm:P.follows .mixedOrders=true) {M:MM} {own:Nat→Option Nat} {w:World} {a:Act} (id:Nat)
  (hw:ca w0 M own (bJ s0) w) (hu:M.upto s0.length) (ht:cy M t0 a.tmps) (Zy:a.defers=df) {Q:Exit→Act→World→Prop} (rr:Option Nat)
  (hq:∀M' TW w' a',M.Le M'→M'.upto sn.length→ca w0 M' TW (bJ sn) w'→cy M' tn a'.tmps→a'.defers=df→Q .normal a' w'):(Code.region id ops true).wpIn (FW rr) 0 P Q a w:=by
 refine wpIn_region_any hm (Lp (w0:=w0) (M0:=M) WU hd hq rr ops.size _ M own _ a (by simp) ?_ ?_)
 ·rw [Array.toList_replicate];simp
 ·have hL:∀j,(Array.replicate ops.size false).getD j false=false:=fun j=>by
   rw [aaJ,Array.getElem?_replicate]
   split<;>rfl
  have eT:∀k,gz tr t0 (fun j=>(Array.replicate ops.size false).getD j false) k=t0:=by
   intro k
   induction k with
   |zero=>rfl
   |succ k ih=>unfold gz;simp only [hL k];exact ih
  have eS:∀k,cS tr (bJ s0) (fun j=>(Array.replicate ops.size false).getD j false) k=bJ s0:=by
   intro k
   induction k with
   |zero=>rfl
   |succ k ih=>unfold cS;simp only [hL k];exact ih
  refine ⟨fun j hj=> ?_,?_,?_,Zy,?_,.refl M⟩
  ·rw [hL j] at hj;cases hj
  ·rw [eS];exact hw.drew
  ·rw [eT];exact ht
  ·intro id h
   left
   rcases aaA id s0.length with q|q
   ·exact q
   ·rcases h with h|⟨v,h⟩
    ·exact absurd (hu.1 id q) h
    ·exact absurd (hu.2 id v q) h
end
end Go.Ev
