import Derived.Test.YtkpneibifdoecaaGreatT02
import Derived.Test.YtkpneibifdoecaaGreatT05
import Derived.Test.YtkpneibifdoecaaGreatT06
import Derived.Test.YtkpneibifdoecaaGreatT09
open List renaming replicate→Vt,length_append→Vu,length_set→Vv,length_cons→Vx,length_nil→Vy,length→VD,getD_eq_getElem?_getD→VJ,getElem?_eq_none→VO,drop_eq_getElem_cons→VT,getElem?_map→VW,map→VY,append_assoc→V7,getElem?_eq_getElem→V8,append_nil→Wd,drop_length→Wl,getElem_mem→Wr,drop_zero→WH
open Bool renaming eq_iff_iff→Vw,and_eq_true→VG,and_false→VL,not_eq_true'→Wn
open Option.some renaming inj→VA,injEq→VI
open Nat renaming le_refl→VF,lt_or_ge→VS,zero_add→V9,mul_le_mul_right→Wo,le_trans→WG
open Int renaming toNat→VP
open Option renaming map_eq_some_iff→VU
open Array renaming getElem?_append_left→We,size_append→WA
open Go.Program renaming cellsOf→Ws
open Go.Operand renaming tmp→WS,const→W2
open Go.Value renaming int→W0
open Go renaming IntKind→W3
/- Contracts and plain laws that a statement's proof leans on (texts merged:EvZ,MW3A,MV1,MV1A,MV2). -/
set_option linter.unusedVariables false
set_option linter.unusedSimpArgs false
set_option maxRecDepth 100000
set_option maxHeartbeats 8000000
namespace Go.Ev
open Go Go.RowKit
def jn.rn (f:Nat→Nat):jn→jn
  | .tok t v=> .tok (f t) v
  |o=>o
mutual
def D.rn (f:Nat→Nat):D→D
  | .ptr q id off=> .ptr q (f id) off
  | .bA id=> .bA (f id)
  | .iD id=> .iD (f id)
  | .bP id sz n=> .bP (f id) sz n
  | .sub id off sz n c=> .sub (f id) off sz n c
  | .aq o sz xs=> .aq (o.rn f) sz xs
  | .agg cs=> .agg (D.sk f cs)
  | .aQ cs=> .aQ (D.sk f cs)
  | .fn g a b=> .fn g (D.sk f a) (D.sk f b)
  |d=>d
def D.sk (f:Nat→Nat):List D→List D
  | []=> []
  |d::r=>d.rn f::D.sk f r
end
theorem D.fF (f:Nat→Nat) (l:List D):D.sk f l=l.map (D.rn f):=by
 induction l with
 |nil=>simp [D.sk]
 |cons d r ih=>simp [D.sk,ih]
def Ob.rn (f:Nat→Nat):Ob→Ob
  | .box cs=> .box (D.sk f cs)
  | .lp k t ps ag bd=> .lp k (D.sk f t) ps ag bd
  |o=>o
def MM.pull (M:MM) (f:Nat→Nat):MM:=⟨M.cell,fun i=>M.box (f i),fun i v=>M.br (f i) v,M.dE⟩
theorem bz.push {M:MM} {d:D} {v:Value} (h:bz M d v) (f:Nat→Nat):∀ {M':MM},(∀b o v,M.cell b o=some v→M'.cell b o=some v)→(∀id b,M.box id=some b→M'.box (f id)=some b)→(∀t v x,M.br t v=some x→M'.br (f t) v=some x)→bz M' (d.rn f) v:=by
 induction h with
 |undef v=>intro _ _ _ _;rw [D.rn];exact .undef v;all_goals (intros;contradiction)
 |int k n=>intro _ _ _ _;exact .int k n
 |bool b=>intro _ _ _ _;exact .bool b
 |str s=>intro _ _ _ _;exact .str s
 |eW=>intro _ _ _ _;exact .eW
 |ptr q h=>intro _ _ hb _;exact .ptr q (hb _ _ h)
 |cN q vs hx hc hr ih=>
  intro _ c _ _
  exact .cN q vs hx (fun j x h=>c _ _ _ (hc j x h)) (fun j x h=>(hr j x h).mono ⟨c,fun _ _ y=>y,fun _ _ _ y=>y,fun _ y=>y⟩)
 |bA h=>intro _ _ hb _;exact .bA (hb _ _ h)
 |iD h=>intro _ _ hb _;exact .iD (hb _ _ h)
 |bP h hh hc=>intro _ _ hb hs;exact .bP (hb _ _ h) (hs _ _ _ hh) hc
 |sub h hc hp ho=>intro _ _ hb _;exact .sub (hb _ _ h) hc hp ho
 |aq b off vs hl Ph ha Po hc hr Pr ho ih=>
  rename_i o _ _ _ _ _
  intro _ c _ hs
  refine .aq b off vs hl Ph ha Po (fun i x cs j y h1 h2 h3=>c _ _ _ (hc i x cs j y h1 h2 h3)) (fun i x cs j y h1 h2 h3=>(hr i x cs j y h1 h2 h3).mono ⟨c,fun _ _ y=>y,fun _ _ _ y=>y,fun _ y=>y⟩) Pr ?_
  cases o with
  |tok t v=>exact hs _ _ _ ho
  |_=>exact ho
 |bw=>intro _ _ _ _;exact .bw
 |fn h1 h2 r1 r2 i1 i2=>
  intro _ c hb hs
  rw [D.rn,D.fF,D.fF]
  refine .fn (by simpa using h1) (by simpa using h2) ?_ ?_
  ·intro i d v a b
   rw [VW,VU] at a
   obtain ⟨d0,h0,rfl⟩:=a
   exact i1 i d0 v h0 b c hb hs
  ·intro i d v a b
   rw [VW,VU] at a
   obtain ⟨d0,h0,rfl⟩:=a
   exact i2 i d0 v h0 b c hb hs
 |agg h r ih=>
  intro _ c hb hs
  rw [D.rn,D.fF]
  refine .agg (by simpa using h) ?_
  intro i d v a b
  rw [VW,VU] at a
  obtain ⟨d0,h0,rfl⟩:=a
  exact ih i d0 v h0 b c hb hs
 |aQ h r ih=>
  intro _ c hb hs
  rw [D.rn,D.fF]
  refine .aQ (by simpa using h) ?_
  intro i d v a b
  rw [VW,VU] at a
  obtain ⟨d0,h0,rfl⟩:=a
  exact ih i d0 v h0 b c hb hs
mutual
theorem bz.pull (M:MM) (f:Nat→Nat):∀(d:D) (v:Value),bz M (d.rn f) v→bz (M.pull f) d v
  | .undef,v,_=> .undef v
  | .int k n,_,h=>by cases h;exact .int k n
  | .bool b,_,h=>by cases h;exact .bool b
  | .str s,_,h=>by cases h;exact .str s
  | .eW,_,h=>by cases h;exact .eW
  | .bw,_,h=>by cases h;exact .bw
  | .ptr q id off,_,h=>by cases h with|ptr _ h=>exact .ptr q h
  | .cN q x off,_,h=>by cases h with|cN _ vs hx hc hr=>exact .cN q vs hx hc hr
  | .bA id,_,h=>by cases h with|bA h=>exact .bA h
  | .iD id,_,h=>by cases h with|iD h=>exact .iD h
  | .bP id sz n,_,h=>by cases h with|bP h hh hc=>exact .bP h hh hc
  | .sub id off sz n c,_,h=>by cases h with|sub h hc hp ho=>exact .sub h hc hp ho
  | .aq o sz xs,_,h=>by
    cases h with
    |aq b off vs hl Ph ha Po hc hr Pr ho=>
      refine .aq b off vs hl Ph ha Po hc hr Pr ?_
      cases o with
      |tok t v=>exact ho
      |_=>exact ho
  | .fn g a b,_,h=>by
    rw [D.rn,D.fF,D.fF] at h
    cases h with
    |fn h1 h2 r1 r2=>
      exact .fn (by simpa using h1) (by simpa using h2) (fun i d v x y=>bz.vP M f a i d v x (r1 i (d.rn f) v (by rw [VW,x];rfl) y)) (fun i d v x y=>bz.vP M f b i d v x (r2 i (d.rn f) v (by rw [VW,x];rfl) y))
  | .agg cs,_,h=>by
    rw [D.rn,D.fF] at h
    cases h with
    |agg h1 r=>exact .agg (by simpa using h1) (fun i d v x y=>bz.vP M f cs i d v x (r i (d.rn f) v (by rw [VW,x];rfl) y))
  | .aQ cs,_,h=>by
    rw [D.rn,D.fF] at h
    cases h with
    |aQ h1 r=>exact .aQ (by simpa using h1) (fun i d v x y=>bz.vP M f cs i d v x (r i (d.rn f) v (by rw [VW,x];rfl) y))
theorem bz.vP (M:MM) (f:Nat→Nat):∀(l:List D) (i:Nat) (d:D) (v:Value),l[i]? =some d→bz M (d.rn f) v→bz (M.pull f) d v
  | [],i,d,v,h,_=>by simp at h
  |x::r,0,d,v,h,k=>by
    simp at h
    subst h
    exact bz.pull M f x v k
  |x::r,i+1,d,v,h,k=>bz.vP M f r i d v (by simpa using h) k
end
theorem bV.pull {M:MM} {f:Nat→Nat} {l:List D} {vs:Array Value} (h:bV M (D.sk f l) vs):bV (M.pull f) l vs:=by
 rw [D.fF] at h
 exact ⟨by simpa using h.1,fun i d v a b=>bz.pull M f d v (h.2 i (d.rn f) v (by rw [VW,a];rfl) b)⟩
theorem bV.push {M M':MM} {f:Nat→Nat} {l:List D} {vs:Array Value} (h:bV M l vs) (c:∀b o v,M.cell b o=some v→M'.cell b o=some v) (hb:∀id b,M.box id=some b→M'.box (f id)=some b) (hs:∀t v x,M.br t v=some x→M'.br (f t) v=some x):bV M' (D.sk f l) vs:=by
 rw [D.fF]
 refine ⟨by simpa using h.1,fun i d v a b=> ?_⟩
 rw [VW,VU] at a
 obtain ⟨d0,h0,rfl⟩:=a
 exact (h.2 i d0 v h0 b).push f c hb hs
def jh (tb:List Nat) (n i:Nat):Nat:=if i<tb.length then tb.getD i 0 else n+(i - tb.length)
def lM (tb:List Nat) (n j:Nat):Option Nat:=if j<n then tb.idxOf? j else some (tb.length+(j - n))
def EX (tb:List Nat) (n:Nat) (s:List Ob):List Ob→Nat→List Ob
  | [],_=> []
  |x::t,j=>(match tb.idxOf? j with|some i=>(s.getD i .dead).rn (jh tb n)|none=>x)::EX tb n s t (j+1)
def Fw (tb:List Nat) (t s:List Ob):List Ob:=EX tb t.length s t 0++(s.drop tb.length).map (Ob.rn (jh tb t.length))
theorem sj (tb:List Nat) (n:Nat) (s:List Ob):∀t j,(EX tb n s t j).length=t.length
 | [],_=>rfl
 |_::t,j=>by rw [EX,Vx,sj tb n s t (j+1),Vx]
theorem zX (tb:List Nat) (n:Nat) (s:List Ob):∀t j i,i<t.length→(EX tb n s t j)[i]? =some (match tb.idxOf? (j+i) with|some i=>(s.getD i .dead).rn (jh tb n)|none=>t.getD i .dead)
 | [],_,_,h=>by simp at h
 |x::t,j,0,_=>by rw [EX];rfl
 |x::t,j,i+1,h=>by
  rw [EX,List.getElem?_cons_succ,zX tb n s t (j+1) i (by simpa using h),show j+1+i=j+(i+1) by omega]
  rfl
theorem si (tb:List Nat) (t s:List Ob):(Fw tb t s).length=t.length+(s.length - tb.length):=by
 rw [Fw,Vu,sj,List.length_map,List.length_drop]
theorem Dd (tb:List Nat) (t s:List Ob) (j:Nat):bE (Fw tb t s) j=match lM tb t.length j with|some i=>(bE s i).rn (jh tb t.length)|none=>bE t j:=by
 unfold bE Fw lM
 rw [VJ,List.getElem?_append,sj]
 by_cases h:j<t.length
 ·rw [if_pos h,if_pos h,zX tb _ s t 0 j h,V9]
  rfl
 ·rw [if_neg h,if_neg h,VW,List.getElem?_drop]
  simp only [VJ]
  cases s[tb.length+(j - t.length)]? <;>rfl
theorem HV (tb:List Nat) (n:Nat) (hd:tb.Nodup) (hb:∀x∈tb,x<n) (i:Nat):lM tb n (jh tb n i)=some i:=by
 unfold lM jh
 by_cases h:i<tb.length
 ·rw [if_pos h,VJ,V8 h]
  simp only [Option.getD_some]
  rw [if_pos (hb _ (Wr h)),List.idxOf?_eq_some_iff]
  refine ⟨h,rfl,fun j hj e=> ?_⟩
  have hp:=List.pairwise_iff_getElem.mp hd j i (by omega) h hj
  exact hp e
 ·rw [if_neg h,if_neg (by omega)]
  congr 1
  omega
theorem Fv (tb:List Nat) (n:Nat) (j i:Nat) (h:lM tb n j=some i):jh tb n i=j:=by
 unfold lM at h
 unfold jh
 split at h
 ·rw [List.idxOf?_eq_some_iff] at h
  obtain ⟨h1,h2,_⟩:=h
  rw [if_pos h1,VJ,V8 h1]
  exact h2
 ·simp only [VI] at h
  subst h
  rw [if_neg (by omega)]
  omega
theorem Ob.HX {f:Nat→Nat} {o:Ob} {cs:List D} (h:o.rn f= .box cs):∃c,o= .box c∧cs=D.sk f c:=by
 cases o<;>simp [Ob.rn] at h
 exact ⟨_,rfl,h.symm⟩
theorem Ob.HW {f:Nat→Nat} {o:Ob} {v z:Nat} (h:o.rn f= .bg v z):o= .bg v z:=by
 cases o<;>simp [Ob.rn] at h
 obtain ⟨rfl,rfl⟩:=h
 rfl
theorem Ob.zW {f:Nat→Nat} {o:Ob} :(o.rn f).BA=o.BA:=by cases o<;>rfl
theorem Ob.Jr {f:Nat→Nat} {o:Ob} {k:Lk} {t:List D} {ps:Array Nat} {ag bd:Code} (h:o.rn f= .lp k t ps ag bd):∃t0,o= .lp k t0 ps ag bd∧t=D.sk f t0:=by
 cases o<;>simp [Ob.rn] at h
 obtain ⟨rfl,rfl,rfl,rfl,rfl⟩:=h
 exact ⟨_,rfl,rfl⟩
theorem bW.rn {P:Program} {g:FuncId} {args:List D} {s:List Ob} {d:D} {s':List Ob} (h:bW P g args s d s') (tb:List Nat) (t:List Ob) (hl:s.length=tb.length) (hd:tb.Nodup) (hb:∀x∈tb,x<t.length) (ht:Fw tb t s=t):
  bW P g (D.sk (jh tb t.length) args) t (d.rn (jh tb t.length)) (Fw tb t s'):=by
 have kf:=HV tb t.length hd hb
 have fk:=Fv tb t.length
 have UY:=Dd tb t s'
 have T6:∀i,bE t (jh tb t.length i)=(bE s i).rn (jh tb t.length):=fun i=>by
  have:=Dd tb t s (jh tb t.length i)
  rw [ht,kf] at this
  exact this
 have Vr:∀i,tb.length≤i→jh tb t.length i=t.length+(i - tb.length):=fun i hi=>by rw [jh,if_neg (by omega)]
 have hlen:=h.len
 refine ⟨h.CF,by rw [si];omega,fun w0 M own w vs hw hu hr=> ?_⟩
 let X1:Nat→Prop:=fun b=>w0.X b∨∃j,own b=some j∧lM tb t.length j=none∧¬M.dE b
 let w1:de:=⟨w,M.cell,X1⟩
 have hX:∀b,X1 b→b<w.heap.size:=by
  rintro b (q|⟨j,q,_⟩)
  ·exact hw.below.Kc q
  ·exact hw.owned b j q
 have bs:∀b i,¬w0.X b→own b=some (jh tb t.length i)→¬X1 b:=by
  rintro b i q e (k|⟨j,k1,k2,_⟩)
  ·exact q k
  ·rw [e,VI] at k1
   rw [← k1,kf] at k2
   cases k2
 have Sv:bH w1 (M.pull (jh tb t.length)) (fun b=>(own b).bind (lM tb t.length)) (bE s) w:=by
  have ow:∀b i,own b=some (jh tb t.length i)→(own b).bind (lM tb t.length)=some i:=fun b i e=>by rw [e];exact kf i
  refine ⟨⟨rfl,rfl,rfl,VF _,fun _ _=>rfl,hX⟩,hw.cells,fun b o v q _=>q,?_,?_,?_,?_,?_,fun b q=>⟨?_,(hw.dE b q).2⟩⟩
  ·intro b id e
   rw [Option.bind_eq_some_iff] at e
   obtain ⟨j,e1,_⟩:=e
   exact hw.owned b j e1
  ·intro id cs e
   obtain ⟨b,vs,ty,q⟩:=hw.box (jh tb t.length id) _ (by rw [T6,e];rfl)
   refine ⟨b,vs,ty,q.box,bs _ _ q.base q.own,ow _ _ q.own,q.none,q.cq,by simpa [D.fF] using q.len,fun i d v a c=>bz.pull M _ d v (q.rep i _ v (by rw [D.fF,VW,a];rfl) c),fun sz a len cap c=>q.room sz a len cap c⟩
  ·intro id ver sz e
   obtain ⟨a,len,cap,q⟩:=hw.bg (jh tb t.length id) ver sz (by rw [T6,e];rfl)
   refine ⟨a,len,cap,q.br,q.last,q.room.imp (fun x=>x) fun ⟨b,vs,ty,fz,ha,r⟩=>⟨b,vs,ty,fz,ha,bs _ _ r.base r.own,ow _ _ r.own,r.cq,r.fz,r.cap,r.none⟩⟩
  ·intro id F e
   obtain ⟨b,Pf,clock,q⟩:=hw.mp (jh tb t.length id) F (by rw [T6,Ob.zW,e])
   exact ⟨b,Pf,clock,q.box,bs _ _ q.base q.own,ow _ _ q.own,q.none,q.cq,q.fits⟩
  ·intro id k tt ps ag bd e
   obtain ⟨l,r,q⟩:=hw.lp (jh tb t.length id) k _ ps ag bd (by rw [T6,e];rfl)
   exact ⟨l,r,q.box,bs _ _ q.base q.own,ow _ _ q.own,q.cq,q.st,q.pd,q.tm.pull,q.ps,q.ag,q.bd⟩
  ·rintro (k|⟨j,_,_,k⟩)
   ·exact (hw.dE b q).1 k
   ·exact k q
 have Vk:(M.pull (jh tb t.length)).upto s.length:=by
  constructor
  ·intro id hi
   exact hu.1 _ (by rw [Vr id (by omega)];omega)
  ·intro id v hi
   exact hu.2 _ v (by rw [Vr id (by omega)];omega)
 refine Calls.mono (h.run w1 _ _ w vs Sv Vk hr.pull) ?_
 rintro e w' ⟨v,M',Pc,rfl,q1,q2,q3,q4⟩
 let M2:MM:=⟨M'.cell,fun j=>match lM tb t.length j with|some i=>M'.box i|none=>M.box j,fun j v=>match lM tb t.length j with|some i=>M'.br i v|none=>M.br j v,M'.dE⟩
 have e1:∀i,M2.box (jh tb t.length i)=M'.box i:=fun i=>by show (match lM tb t.length (jh tb t.length i) with|some i=>M'.box i|none=>_)=_;rw [kf]
 have e2:∀i v,M2.br (jh tb t.length i) v=M'.br i v:=fun i v=>by show (match lM tb t.length (jh tb t.length i) with|some i=>M'.br i v|none=>_)=_;rw [kf]
 have c1:∀b o v,M'.cell b o=some v→M2.cell b o=some v:=fun _ _ _ x=>x
 have b1:∀id b,M'.box id=some b→M2.box (jh tb t.length id)=some b:=fun id b x=>by rw [e1];exact x
 have s1:∀t' v x,M'.br t' v=some x→M2.br (jh tb t.length t') v=some x:=fun t' v x y=>by rw [e2];exact y
 have le:M.Le M2:=by
  refine ⟨q3.cell,?_,?_,q3.dE⟩
  ·intro j b e
   show (match lM tb t.length j with|some i=>M'.box i|none=>M.box j)=some b
   cases hk:lM tb t.length j with
   |none=>exact e
   |some i=>exact q3.box i b (by show M.box (jh tb t.length i)=some b;rw [fk j i hk];exact e)
  ·intro j v x e
   show (match lM tb t.length j with|some i=>M'.br i v|none=>M.br j v)=some x
   cases hk:lM tb t.length j with
   |none=>exact e
   |some i=>exact q3.br i v x (by show M.br (jh tb t.length i) v=some x;rw [fk j i hk];exact e)
 have mk:∀b j o,own b=some j→lM tb t.length j=none→w.heap[b]? =some o→(∀z,o≠ .deferred z)→X1 b:=fun b j o e k hb hn=> .inr ⟨j,e,k,fun hm=>by
  rw [(hw.dE b hm).2] at hb
  exact hn _ (VA hb).symm⟩
 have SD:∀b o,X1 b→w.heap[b]? =some o→w'.heap[b]? =some o:=fun b o x y=>by rw [q1.below.block b x];exact y
 have S6:∀b o,X1 b→M.cell b o=none→M2.cell b o=none:=by
  intro b o x y
  show M'.cell b o=none
  cases e:M'.cell b o with
  |none=>rfl
  |some v=>
   have:M.cell b o=some v:=q1.gq b o v e x
   rw [y] at this
   cases this
 classical
 let Qy:Nat→Option Nat:=fun b=>if X1 b then own b else (Pc b).map (jh tb t.length)
 have ow:∀b i,¬X1 b→Pc b=some i→Qy b=some (jh tb t.length i):=fun b i x e=>by show (if X1 b then _ else _)=_;rw [if_neg x,e];rfl
 have TZ:∀b j,X1 b→own b=some j→Qy b=some j:=fun b j x e=>by show (if X1 b then _ else _)=_;rw [if_pos x];exact e
 have Tk:∀b,¬X1 b→¬w0.X b:=fun b x y=>x (.inl y)
 have inv:∀j o,bE (Fw tb t s') j=o→(∃i,jh tb t.length i=j∧(bE s' i).rn (jh tb t.length)=o)∨(lM tb t.length j=none∧bE t j=o):=by
  intro j o e
  rw [UY] at e
  cases hk:lM tb t.length j with
  |none=>rw [hk] at e;exact .inr ⟨rfl,e⟩
  |some i=>rw [hk] at e;exact .inl ⟨i,fk j i hk,e⟩
 have n1:∀j,lM tb t.length j=none→M2.box j=M.box j:=fun j k=>by show (match lM tb t.length j with|some i=>M'.box i|none=>M.box j)=_;rw [k]
 have n2:∀j v,lM tb t.length j=none→M2.br j v=M.br j v:=fun j v k=>by show (match lM tb t.length j with|some i=>M'.br i v|none=>M.br j v)=_;rw [k]
 refine ⟨v,M2,Qy,rfl,⟨?_,q1.cells,?_,?_,?_,?_,?_,?_,?_⟩,⟨?_,?_⟩,le,q4.push _ c1 b1 s1⟩
 ·exact ⟨q1.below.os.trans hw.below.os,q1.below.tape.trans hw.below.tape,q1.below.output.trans hw.below.output,WG hw.below.size q1.below.size,fun k hk=>(q1.below.block k (.inl hk)).trans (hw.below.block k hk),hw.below.lt⟩
 ·intro b o v k hb
  exact hw.gq b o v (q1.gq b o v k (.inl hb)) hb
 ·intro b id e
  have e:(if X1 b then own b else (Pc b).map (jh tb t.length))=some id:=e
  split at e
  ·rename_i hx
   exact Nat.lt_of_lt_of_le (hX b hx) q1.below.size
  ·rw [VU] at e
   obtain ⟨i,e,_⟩:=e
   exact q1.owned b i e
 ·intro j cs e
  rcases inv j _ e with ⟨i,rfl,hi⟩|⟨hk,hj⟩
  ·obtain ⟨c,hc,rfl⟩:=Ob.HX hi
   obtain ⟨b,vs,ty,q⟩:=q1.box i c hc
   refine ⟨b,vs,ty,b1 _ _ q.box,Tk _ q.base,ow _ _ q.base q.own,q.none,q.cq,by simpa [D.fF] using q.len,fun k d v x y=> ?_,fun sz a len cap x=>q.room sz a len cap (by rw [← e2];exact x)⟩
   rw [D.fF,VW,VU] at x
   obtain ⟨d0,h0,rfl⟩:=x
   exact (q.rep k d0 v h0 y).push _ c1 b1 s1
  ·obtain ⟨b,vs,ty,q⟩:=hw.box j cs hj
   have x:=mk b j _ q.own hk q.cq (fun z hz=>by cases hz)
   exact ⟨b,vs,ty,le.box _ _ q.box,q.base,TZ _ _ x q.own,fun o=>S6 b o x (q.none o),SD b _ x q.cq,q.len,fun i d v a c=>(q.rep i d v a c).mono le,fun sz a len cap c=>q.room sz a len cap (by rw [← n2 _ _ hk];exact c)⟩
 ·intro j ver sz e
  rcases inv j _ e with ⟨i,rfl,hi⟩|⟨hk,hj⟩
  ·obtain ⟨a,len,cap,q⟩:=q1.bg i ver sz (Ob.HW hi)
   exact ⟨a,len,cap,s1 _ _ _ q.br,fun v hv=>by rw [e2];exact q.last v hv,q.room.imp (fun x=>x) fun ⟨b,vs,ty,fz,ha,r⟩=>⟨b,vs,ty,fz,ha,Tk _ r.base,ow _ _ r.base r.own,r.cq,r.fz,r.cap,r.none⟩⟩
  ·obtain ⟨a,len,cap,q⟩:=hw.bg j ver sz hj
   refine ⟨a,len,cap,le.br _ _ _ q.br,fun v hv=>by rw [n2 _ _ hk];exact q.last v hv,q.room.imp (fun x=>x) fun ⟨b,vs,ty,fz,ha,r⟩=> ?_⟩
   have x:=mk b j _ r.own hk r.cq (fun z hz=>by cases hz)
   exact ⟨b,vs,ty,fz,ha,r.base,TZ _ _ x r.own,SD b _ x r.cq,r.fz,r.cap,fun o ho=>S6 b o x (r.none o ho)⟩
 ·intro j F e
  rcases inv j _ rfl with ⟨i,rfl,hi⟩|⟨hk,hj⟩
  ·rw [← hi,Ob.zW] at e
   obtain ⟨b,Pf,clock,q⟩:=q1.mp i F e
   exact ⟨b,Pf,clock,b1 _ _ q.box,Tk _ q.base,ow _ _ q.base q.own,q.none,q.cq,q.fits⟩
  ·rw [← hj] at e
   obtain ⟨b,Pf,clock,q⟩:=hw.mp j F e
   have x:=mk b j _ q.own hk q.cq (fun z hz=>by cases hz)
   exact ⟨b,Pf,clock,le.box _ _ q.box,q.base,TZ _ _ x q.own,fun o=>S6 b o x (q.none o),SD b _ x q.cq,q.fits⟩
 ·intro j k tt ps ag bd e
  rcases inv j _ e with ⟨i,rfl,hi⟩|⟨hk,hj⟩
  ·obtain ⟨t0,h0,rfl⟩:=Ob.Jr hi
   obtain ⟨l,r,q⟩:=q1.lp i k t0 ps ag bd h0
   exact ⟨l,r,b1 _ _ q.box,Tk _ q.base,ow _ _ q.base q.own,q.cq,q.st,q.pd,q.tm.push c1 b1 s1,q.ps,q.ag,q.bd⟩
  ·obtain ⟨l,r,q⟩:=hw.lp j k tt ps ag bd hj
   have x:=mk l j _ q.own hk q.cq (fun z hz=>by cases hz)
   exact ⟨l,r,q.bO le (TZ _ _ x q.own) (SD l _ x q.cq)⟩
 ·intro b q
  exact ⟨Tk _ (q1.dE b q).1,(q1.dE b q).2⟩
 ·intro j hj
  rw [si] at hj
  show (match lM tb t.length j with|some i=>M'.box i|none=>M.box j)=none
  rw [lM,if_neg (by omega)]
  exact q2.1 _ (by omega)
 ·intro j v hj
  rw [si] at hj
  show (match lM tb t.length j with|some i=>M'.br i v|none=>M.br j v)=none
  rw [lM,if_neg (by omega)]
  exact q2.2 _ v (by omega)
def y2 (w:World) (m:Nat):Option Addr→List Value
  |none=> []
  |some a=>(List.range m).map fun k=>(w.cell? (a.add k)).getD undef
theorem mj (b o k:Nat):({ block:=b,off:=o } :Addr).add k= { block:=b,off:=o+k } :=by
 unfold Addr.add
 split
 ·rename_i h;subst h;rfl
 ·rfl
theorem BZ {P:Program} {g:FuncId} (CF:Kw P g) {i0:TypeInfo} {z:Value} {t:TypeId} (hz:z.cells.size=i0.size) (Tv:0<i0.size) (Qu:i0.bytes≤65536)
  (R:∀(base:Option Addr) (l c n:Nat) (w:World),l≤c→c≤9223372036854775807→n≤9223372036854775807→l+n≤c→Calls P g #[.slice base l c,.int .i64 n] w fun e w'=>e= .returned (.slice base l c)∧w'=w)
  (G:∀(base:Option Addr) (l c n:Nat) (cs:List Value) (w:World),l≤c→c<l+n→(l+n)*i0.bytes≤140737488355328→l+n≤4611686018427387904→cs.length=c*i0.size→(base=none→c=0)→(∀a,base=some a→∀j v,cs[j]? =some v→w.cell? (a.add j)=some v)→
   Calls P g #[.slice base l c,.int .i64 n] w fun e w'=>e= .returned (.slice (some ⟨w.heap.size,0,none⟩) l (grownCap w (l+n) c t))∧w'=w.drew.alloc (.cells (cs.toArray++Builtin.zeroCells z.cells (l+n - c)++Builtin.zeroCells z.cells (grownCap w (l+n) c t - (l+n))) t))
  (xs:List D) (n v:Nat) (hx:xs.length≤1000000) (hn:n≤1000000):
  bW P g [.aq (.tok 0 v) i0.size xs,.int .i64 (n:Int)] [.bg v i0.size] (.aq (.tok 0 (v+1)) i0.size xs) [.bg (v+1) i0.size]:=by
 refine ⟨CF,VF _,fun w0 M own w vs hw hu hr=> ?_⟩
 obtain ⟨a,b,rfl⟩:∃a b,vs= #[a,b]:=by
  rcases vs with ⟨l⟩
  have hl:=hr.1
  match l,hl with
  | [a,b],_=>exact ⟨a,b,rfl⟩
 have ra:=hr.2 0 _ a rfl rfl
 have rb:=hr.2 1 _ b rfl rfl
 have eb:b= .int .i64 (n:Int):=by cases rb;rfl
 subst eb
 have es:∀u,dv (bE [Ob.bg v i0.size]) 0 (.bg u i0.size)=bE [Ob.bg u i0.size]:=fun u=>by
  funext i
  cases i with
  |zero=>rfl
  |succ i=>simp [dv,bE]
 cases ra with
 |aq b off vs hl Ph ha Po hc hrr Pr ho=>
  rename_i ad len cap
  obtain ⟨a2,len2,cap2,q⟩:=hw.bg 0 v i0.size rfl
  have ho:M.br 0 v=some (.slice ad len cap):=ho
  have he:=q.br
  rw [ho] at he
  obtain ⟨rfl,rfl,rfl⟩:=Value.slice.inj (VA he)
  have Rw:∀k,v+1≤k→M.br 0 k=none:=fun k hk=>q.last k (by omega)
  have Uu:cap≤9223372036854775807:=by
   rcases q.room with e|⟨_,_,_,_,_,r⟩
   ·omega
   ·exact r.cap.2
  have up:∀(M':MM),M'.box=M.box→(∀j,j≠0→M'.br j=M.br j)→M'.upto 1:=fun M' h1 h2=>⟨fun id hi=>by rw [h1];exact hu.1 id hi,fun id k hi=>by rw [h2 id (by omega)];exact hu.2 id k hi⟩
  rcases VS cap (len+n) with Pd|hge
  ·
   have PZ:∀TY,ad=some TY→∀k,k<cap*i0.size→∃u,w.cell? (TY.add k)=some u:=by
    intro TY e k hk
    rcases q.room with ec|⟨b2,vs2,ty2,fz2,e2,r⟩
    ·have Px:xs≠ []:=fun e0=>by
      rw [ec,← hl,e0] at hk
      simp at hk
     have e3:=ha Px
     rw [e] at e3
     obtain rfl:=VA e3
     have RM:k / i0.size<xs.length:=(Nat.div_lt_iff_lt_mul Tv).2 (by rw [hl,← ec];exact hk)
     have TR:xs[k / i0.size]? =some xs[k / i0.size]:=by simp [RM]
     obtain ⟨cs,Pg,hlen⟩:=Po _ _ TR
     have hm:k%i0.size<cs.length:=by rw [hlen];exact Nat.mod_lt _ Tv
     have:=hw.cells _ _ _ (hc _ _ cs (k%i0.size) cs[k%i0.size] TR Pg (by simp [hm]))
     rw [Nat.add_assoc,show k / i0.size*i0.size+k%i0.size=k by rw [Nat.mul_comm];exact Nat.div_add_mod k _] at this
     exact ⟨_,by rw [mj];exact this⟩
    ·rw [e] at e2
     obtain rfl:=VA e2
     have RM:k<vs2.size:=Nat.lt_of_lt_of_le hk r.cap.1
     refine ⟨vs2[k],?_⟩
     rw [mj,V9]
     simp [World.cell?,r.cq,RM]
   have Q7:ad=none→cap=0:=fun e=>by
    rcases q.room with ec|⟨_,_,_,_,e2,_⟩
    ·rw [ec,← hl]
     cases xs with
     |nil=>rfl
     |cons x r=>have:=ha (by simp);rw [e] at this;cases this
    ·rw [e] at e2;cases e2
   obtain ⟨cs,hcsd⟩:∃cs,cs=y2 w (cap*i0.size) ad:=⟨_,rfl⟩
   have PG:cs.length=cap*i0.size:=by
    rw [hcsd]
    cases had:ad with
    |none=>rw [Q7 had];simp [y2]
    |some TY=>simp [y2]
   have Pg:∀a,ad=some a→∀j u,cs[j]? =some u→w.cell? (a.add j)=some u:=by
    intro a e j u hj
    have Sa:((List.range (cap*i0.size)).map fun k=>(w.cell? (a.add k)).getD undef)[j]? =some u:=by
     rw [hcsd,e] at hj
     exact hj
    rw [VW,VU] at Sa
    obtain ⟨k,hk,rfl⟩:=Sa
    have QV:j<cap*i0.size:=by
     rcases VS j (cap*i0.size) with q|q
     ·exact q
     ·rw [VO (by simpa using q)] at hk;cases hk
    rw [List.getElem?_range QV] at hk
    cases hk
    obtain ⟨u,hu2⟩:=PZ a e j QV
    rw [hu2]
    rfl
   have Rx:eO M i0.size xs cs.toArray:=by
    refine ⟨by simp only [List.size_toArray];rw [PG,hl];exact Wo _ Ph,Po,?_,Pr⟩
    intro i x xc j c h1 h2 h3
    refine ⟨vs i j,?_,hrr i x xc j c h1 h2 h3⟩
    have Px:xs≠ []:=fun e0=>by rw [e0] at h1;simp at h1
    have e3:=ha Px
    have hm:=hw.cells _ _ _ (hc i x xc j c h1 h2 h3)
    obtain ⟨xc',q1,q2⟩:=Po i x h1
    rw [h2] at q1
    obtain rfl:=VA q1
    have QT:j<i0.size:=by
     rcases VS j xc.length with q|q
     ·omega
     ·simp [VO q] at h3
    have Ro:i<xs.length:=by
     rcases VS i xs.length with q|q
     ·exact q
     ·simp [VO q] at h1
    have hk:i*i0.size+j<cap*i0.size:=Nat.lt_of_lt_of_le (kr Ro QT) (by rw [hl];exact Wo _ Ph)
    have RM:i*i0.size+j<cs.length:=by rw [PG];exact hk
    have:=Pg _ e3 (i*i0.size+j) cs[i*i0.size+j] (by simp [RM])
    have e4:w.cell? (({ block:=b,off:=off } :Addr).add (i*i0.size+j))=some (vs i j):=by
     rw [mj,← Nat.add_assoc];exact hm
    rw [e4] at this
    rw [List.getElem?_toArray,V8 RM]
    exact this.symm
   have SZ:(len+n)*i0.bytes≤140737488355328:=by
    have:=Nat.mul_le_mul (show len+n≤2000000 by omega) Qu
    omega
   have hgm:grownCap w (len+n) cap t≤9223372036854775807:=WG (grownCap_le_maxLen w _ _ _ (by unfold maxLen;omega)) (by unfold maxLen;omega)
   have hgg:len+n≤grownCap w (len+n) cap t:=grownCap_ge w _ _ _
   refine Calls.mono (G ad len cap n cs w Ph Pd SZ (by omega) PG Q7 Pg) ?_
   rintro e w' ⟨rfl,rfl⟩
   generalize grownCap w (len+n) cap t=nc at*
   let arr:=cs.toArray++Builtin.zeroCells z.cells (len+n - cap)++Builtin.zeroCells z.cells (nc - (len+n))
   have Qn:eO M i0.size xs arr:=by
    refine ⟨WG Rx.len (by simp only [arr,WA];omega),Rx.elem,fun i x xc j c h1 h2 h3=> ?_,Rx.st⟩
    obtain ⟨u,g1,g2⟩:=Rx.get i x xc j c h1 h2 h3
    have QV:i*i0.size+j<cs.toArray.size:=by
     rcases VS (i*i0.size+j) cs.toArray.size with q|q
     ·exact q
     ·rw [Array.getElem?_eq_none q] at g1;cases g1
    refine ⟨u,?_,g2⟩
    simp only [arr]
    rw [We (by rw [WA];omega),We QV]
    exact g1
   have PN:arr.size=nc*i0.size:=by
    simp only [arr,WA,size_zeroCells,List.size_toArray,PG,hz,← Nat.add_mul]
    congr 1;omega
   have Rp:=lG (M:=M) (w:=w) (wd:=w.drew) (arr:=arr) (ty:=t) (n:=len*i0.size) hw.cells rfl (Below.refl _ _).drew (0,0)
   obtain ⟨QY,Qw⟩:=hw.ext Rp rfl rfl rfl
   have Rd:(w.drew.alloc (.cells arr t (0,0))).heap[w.heap.size]? =some (.cells arr t (0,0)):=by
    show (w.heap.push _)[w.heap.size]? =_
    simp
   have P9:own w.heap.size=none:=by
    cases e:own w.heap.size with
    |none=>rfl
    |some q=>have:=hw.owned _ _ e;omega
   obtain ⟨Pc,hw3⟩:=QY.kq (id:=0) (ver:=v+1) Rw (a:=some ⟨w.heap.size,0,none⟩) (len:=len) (cap:=nc) i0.size
    (.inr ⟨w.heap.size,arr,t,(0,0),rfl,hw.below.new,.inl P9,Rd,fun o _ h=>by have:=h.2;simp at this,⟨by rw [PN];exact VF _,hgm⟩,fun o ho=>by
     simp only [MM.lay,MM.bK,if_true];rw [if_neg (by omega)]⟩)
   have QS:=MM.cA (M:=M.lay w.heap.size arr (len*i0.size)) (id:=0) (ver:=v+1) (v:= .slice (some ⟨w.heap.size,0,none⟩) len nc) (Rw _ (VF _))
   rw [es] at hw3
   refine ⟨_,_,Pc,rfl,hw3,up _ rfl (fun j hj=>by funext k;simp [MM.aV,hj,MM.lay,MM.bK]),Qw.trans QS,?_⟩
   have h5:=kZ (M:=M) (b:=w.heap.size) (o:= .no) (cap:=nc) (n:=len*i0.size) Qn (cR hw.cells (VF _)) (by omega) (by rw [hl];exact VF _) trivial
   rw [hl] at h5
   exact (h5.mono QS).flag _ (by simp [MM.kA,MM.aV])
  ·
   refine Calls.mono (R ad len cap n w Ph Uu (by omega) hge) ?_
   rintro e w' ⟨rfl,rfl⟩
   obtain ⟨Pc,hw3⟩:=hw.kq (id:=0) (ver:=v+1) Rw (a:=ad) (len:=len) (cap:=cap) i0.size
    (q.room.imp (fun x=>x) fun ⟨b2,vs2,ty2,fz2,e2,r⟩=>⟨b2,vs2,ty2,fz2,e2,r.base,.inr r.own,r.cq,r.fz,r.cap,r.none⟩)
   have QS:=MM.cA (M:=M) (id:=0) (ver:=v+1) (v:= .slice ad len cap) (Rw _ (VF _))
   rw [es] at hw3
   refine ⟨_,_,Pc,rfl,hw3,up _ rfl (fun j hj=>by funext k;simp [MM.aV,hj]),QS,?_⟩
   exact ((bz.aq (o:= .no) b off vs hl Ph ha Po hc hrr Pr trivial).mono QS).flag _ (by simp [MM.kA,MM.aV])
end Go.Ev
namespace Go.Proofs.YtkpneibifdoecaaGreat
open Go Go.Ev
theorem AM (l:List Mv) (Pe:l.length≤64):aJ Tryz.prog 98 [.aq .no 2 (cz l)] (.bool (lY [] l)):=by
 cases h:lY [] l with
 |true=>exact tJ l Pe h
 |false=>exact tK l Pe h
theorem Fe (l:List Mv) (Pe:l.length≤64) (sc:Int):aJ Tryz.prog 67 [.aq .no 2 (cz l),.int .i8 sc] (.bool (gX l sc)):=by
 unfold gX
 have hn:=AM l Pe
 cases h2:fO sc with
 |false=>rw [Bool.false_and,VL];exact AO l Pe sc h2
 |true=>
  cases h3:lY [] l with
  |false=>rw [h3] at hn;rw [VL,VL];exact AQ l Pe sc h2 hn
  |true=>
   rw [h3] at hn
   cases h:ofM sc l with
   |false=>exact AP l Pe sc h2 h hn
   |true=>exact AN l Pe sc h2 h hn
theorem zY (f:Nat→Nat):∀l:List Mv,D.sk f (bT l)=bT l
 | []=>rfl
 |p::r=>by rw [bT,D.sk,D.sk,zY f r];rfl
theorem tL {l:List Mv} {d:Int} (h:bW Tryz.prog 68 [.bP 0 2 l.length] [.box (bT l)] (.int .i64 d) [.box (bT l)]):bW Tryz.prog 68 [.bP 3 2 l.length] [.dead,.dead,.bg 0 2,.box (bT l)] (.int .i64 d) [.dead,.dead,.bg 0 2,.box (bT l)]:=by
 have e:Fw [3] [.dead,.dead,.bg 0 2,.box (bT l)] [.box (bT l)]= [.dead,.dead,.bg 0 2,.box (bT l)]:=by
  show ([.dead,.dead,.bg 0 2,.box (D.sk (jh [3] 4) (bT l))]:List Ob)=_
  rw [zY]
 have:=h.rn [3] [.dead,.dead,.bg 0 2,.box (bT l)] rfl (by decide) (show ∀x∈ [3],x<4 by decide) e
 rw [e] at this
 exact this
theorem lK {args:List D} {s s':List Ob} {d:D} (h:bW Tryz.prog 68 args s d s'):bW Tryz.prog 68 args s d s':=h
abbrev MA (l:List Mv) (sc:Int) (k:Nat):List D:= [.aq .no 2 (cz l),.int .i8 sc,.undef,.undef,.undef,.undef,.aq .tight 0 [],.aq .tight 0 [],.int .i64 (k:Int),.undef,.undef,.undef,.undef,.undef,.undef,.undef,.undef,.undef,.undef,.undef,.undef,.undef,.undef,.undef,.undef,.undef,.undef,.undef,.undef,.undef,.undef,.undef,.undef,.undef,.undef,.undef,.undef,.undef,.undef,.undef,.undef,.undef,.undef,.undef,.undef,.undef,.undef,.undef,.undef,.undef,.undef,.undef,.undef,.undef,.undef,.undef,.undef,.undef,.undef,.undef,.undef,.undef,.undef,.undef,.undef,.undef,.undef,.undef,.undef,.undef,.undef,.undef,.undef,.undef,.undef,.undef,.undef,.undef,.undef,.undef,.undef,.undef,.undef,.undef,.undef,.undef,.undef,.undef,.undef,.undef,.undef,.undef,.undef,.undef,.undef,.undef,.undef,.undef]
abbrev MD (sc:Int):List D:= [.undef,.int .i8 sc,.undef,.undef,.undef,.undef,.aq .tight 0 [],.aq .tight 0 [],.undef,.undef,.undef,.undef,.undef,.undef,.undef,.undef,.undef,.undef,.undef,.undef,.undef,.undef,.undef,.undef,.undef,.undef,.undef,.undef,.undef,.undef,.undef,.undef,.undef,.undef,.undef,.undef,.undef,.undef,.undef,.undef,.undef,.undef,.undef,.undef,.undef,.undef,.undef,.undef,.undef,.undef,.undef,.undef,.undef,.undef,.undef,.undef,.undef,.undef,.undef,.undef,.undef,.undef,.undef,.undef,.undef,.undef,.undef,.undef,.undef,.undef,.undef,.undef,.undef,.undef,.undef,.undef,.undef,.undef,.undef,.undef,.undef,.undef,.undef,.undef,.undef,.undef,.undef,.undef,.undef,.undef,.undef,.undef,.undef,.undef,.undef,.undef,.undef,.undef]
abbrev NX (l:List Mv) (sc:Int) (q k:Nat):List D:= [.aq .no 2 (cz l),.int .i8 sc,.undef,.undef,.undef,.undef,.bP 1 2 q,.aq .tight 0 [],.int .i64 (k:Int),.undef,.undef,.undef,.undef,.undef,.undef,.undef,.undef,.undef,.undef,.undef,.undef,.undef,.undef,.undef,.undef,.undef,.undef,.undef,.undef,.undef,.undef,.undef,.undef,.undef,.undef,.undef,.undef,.undef,.undef,.undef,.undef,.undef,.undef,.undef,.undef,.undef,.undef,.undef,.undef,.undef,.undef,.undef,.undef,.undef,.undef,.undef,.undef,.undef,.undef,.undef,.undef,.undef,.undef,.undef,.undef,.undef,.undef,.undef,.undef,.undef,.undef,.undef,.undef,.undef,.undef,.undef,.undef,.undef,.undef,.undef,.undef,.undef,.undef,.undef,.undef,.undef,.undef,.undef,.undef,.undef,.undef,.undef,.undef,.undef,.undef,.undef,.undef,.undef]
abbrev K8 (sc:Int) (q:Nat):List D:= [.undef,.int .i8 sc,.undef,.undef,.undef,.undef,.bP 1 2 q,.aq .tight 0 [],.undef,.undef,.undef,.undef,.undef,.undef,.undef,.undef,.undef,.undef,.undef,.undef,.undef,.undef,.undef,.undef,.undef,.undef,.undef,.undef,.undef,.undef,.undef,.undef,.undef,.undef,.undef,.undef,.undef,.undef,.undef,.undef,.undef,.undef,.undef,.undef,.undef,.undef,.undef,.undef,.undef,.undef,.undef,.undef,.undef,.undef,.undef,.undef,.undef,.undef,.undef,.undef,.undef,.undef,.undef,.undef,.undef,.undef,.undef,.undef,.undef,.undef,.undef,.undef,.undef,.undef,.undef,.undef,.undef,.undef,.undef,.undef,.undef,.undef,.undef,.undef,.undef,.undef,.undef,.undef,.undef,.undef,.undef,.undef,.undef,.undef,.undef,.undef,.undef,.undef]
theorem kp (p:Mv) (r:List Mv):bF (p::r)=if (p.1==p.2)=true then bF r else p::bF r:=by
 unfold bF
 rw [List.filter_cons]
 cases h:(p.1==p.2)<;>simp
theorem K7 (l:List Mv) (Pe:l.length≤64) (sc:Int):∀(n k:Nat) (f:List Mv),k+n=l.length→f.length≤k→
  aA Tryz.prog (aC Tryz.f49 0) 1 (NX l sc f.length k) [.dead,.box (bT f)] (.exit 0) (K8 sc (f++bF (l.drop k)).length) [.dead,.box (bT (f++bF (l.drop k)))]
 |0,k,f,hk,hf=>by
  obtain rfl:k=l.length:=by omega
  have:=HG (cz l) l.length l.length (cW l) Pe sc (bT f) (aZ f) f.length (ct f) (by omega) (VF _)
  rw [aW] at this
  rw [Wl,show bF []= [] from rfl,Wd]
  exact aA.last this (fun h=>by cases h)
 |n+1,k,f,hk,hf=>by
  have Pd:k<l.length:=by omega
  rw [VT Pd,kp]
  cases he:(l[k].1==l[k].2) with
  |true=>
   have:=Fh (cz l) l.length k (cW l) Pe sc (bT f) (aZ f) f.length (ct f) (by omega) Pd l[k].1 l[k].2 (dk Pd) he
   rw [lO (by omega),aW] at this
   rw [if_pos rfl]
   exact aA.bZ this (K7 l Pe sc n (k+1) f (by omega) (by omega))
  |false=>
   have:=HF (cz l) l.length k (cW l) Pe sc (bT f) (aZ f) f.length (ct f) (by omega) Pd l[k].1 l[k].2 (dk Pd) he
   have e:bT f++ [.int .i8 l[k].1,.int .i8 l[k].2]=bT (f++ [l[k]]):=by rw [ln];rfl
   rw [lO (by omega),e,aW] at this
   rw [if_neg (by simp)]
   have ih:=K7 l Pe sc n (k+1) (f++ [l[k]]) (by omega) (by rw [Vu,List.length_singleton];omega)
   rw [V7,show (f++ [l[k]]).length=f.length+1 by simp] at ih
   exact aA.bZ this ih
theorem MC (l:List Mv) (Pe:l.length≤64) (sc:Int):∀(n k:Nat),k+n=l.length→bF (l.drop k)= []→
  aA Tryz.prog (aC Tryz.f49 0) 1 (MA l sc k) [.dead] (.exit 0) (MD sc) [.dead]
 |0,k,hk,hf=>aA.last (HH (cz l) l.length k (cW l) Pe sc (by omega)) (fun h=>by cases h)
 |n+1,k,hk,hf=>by
  have Pd:k<l.length:=by omega
  rw [VT Pd,kp] at hf
  cases he:(l[k].1==l[k].2) with
  |true=>
   rw [he,if_pos rfl] at hf
   have:=zN (cz l) l.length k (cW l) Pe sc Pd l[k].1 l[k].2 (dk Pd) he
   rw [lO (by omega)] at this
   exact aA.bZ this (MC l Pe sc n (k+1) (by omega) hf)
  |false=>rw [he,if_neg (by simp)] at hf;cases hf
theorem MB (l:List Mv) (Pe:l.length≤64) (sc:Int):∀(n k:Nat),k+n=l.length→bF (l.drop k)≠ []→
  aA Tryz.prog (aC Tryz.f49 0) 1 (MA l sc k) [.dead] (.exit 0) (K8 sc (bF (l.drop k)).length) [.dead,.box (bT (bF (l.drop k)))]
 |0,k,hk,hf=>by
  obtain rfl:k=l.length:=by omega
  rw [Wl] at hf
  exact absurd rfl hf
 |n+1,k,hk,hf=>by
  have Pd:k<l.length:=by omega
  rw [VT Pd,kp] at hf ⊢
  cases he:(l[k].1==l[k].2) with
  |true=>
   rw [he,if_pos rfl] at hf
   have:=zN (cz l) l.length k (cW l) Pe sc Pd l[k].1 l[k].2 (dk Pd) he
   rw [lO (by omega)] at this
   rw [if_pos rfl]
   exact aA.bZ this (MB l Pe sc n (k+1) (by omega) hf)
  |false=>
   have:=CQ (cz l) l.length k (cW l) Pe sc Pd l[k].1 l[k].2 (dk Pd) he
   rw [lO (by omega)] at this
   rw [if_neg (by simp)]
   have ih:=K7 l Pe sc n (k+1) [l[k]] (by omega) (by simp)
   exact aA.bZ this ih
theorem iM (r:Int):aJ Tryz.prog 95 ([.int .i8 r]) (.bool (fO r)):=by
 rcases cm (decide (r<0)) with h0|h0
 ·exact (Nc (d:= .bool false) [tC (eT (aK 0 h0)),tC (eT (aK 0 h0)),tC (aK 0 h0)] (by kernel_rfl)).to (by (try simp only [bI,wk,ay,aB,aa,ab,fO] at*);first|(simp [wk,ay,aB,aa,ab,fO, *];done)|(simp [wk,ay,aB,aa,ab,fO, *];omega)|(rw [Vw];simp [wk,ay,aB,aa,ab,fO, *];done)|(rw [Vw];simp [wk,ay,aB,aa,ab,fO, *];omega)|(rw [Vw];simp [wk,ay,aB,aa,ab,fO, *];grind)|(subst_vars;rw [Vw];simp;grind))
 exact (Nc (d:= .bool (decide (r<16))) [tC (eT (aK 0 h0)),tC (eT (aK 0 h0)),tC (aK 0 h0)] (by kernel_rfl)).to (by (try simp only [bI,wk,ay,aB,aa,ab,fO] at*);first|(simp [wk,ay,aB,aa,ab,fO, *];done)|(simp [wk,ay,aB,aa,ab,fO, *];omega)|(rw [Vw];simp [wk,ay,aB,aa,ab,fO, *];done)|(rw [Vw];simp [wk,ay,aB,aa,ab,fO, *];omega)|(rw [Vw];simp [wk,ay,aB,aa,ab,fO, *];grind)|(subst_vars;rw [Vw];simp;grind))
theorem Io (l:List D) (m k:Nat) (es:List (Int×D)) (h:m≤k):ak Tryz.prog (aC Tryz.f96 0) ⟨[],[],[]⟩ 1 [uu,uu,uu,D.bA (0:Nat),uu,uu,uu,.aq .no 2 l,.int .i64 (↑m:Int),.int .i64 (↑k:Int),uu,uu,uu,uu,uu,uu,uu,uu,uu,uu,uu,uu,uu,uu,uu,uu,uu,uu,uu,uu,uu,uu,uu,uu,uu,uu] [Ob.mp W3.i8 es] (.exit 0) [uu,uu,uu,uu,uu,uu,uu,uu,uu,uu,uu,uu,uu,uu,uu,uu,uu,uu,uu,uu,uu,uu,uu,uu,uu,uu,uu,uu,uu,uu,uu,uu,uu,uu,uu,uu] ([.dead]):=by
 exact (ak.ao (sp:=⟨[],[],[]⟩) (n0:=1) (ex:=Ex.exit (0:Nat)) (t':= [uu,uu,uu,uu,uu,uu,uu,uu,uu,uu,uu,uu,uu,uu,uu,uu,uu,uu,uu,uu,uu,uu,uu,uu,uu,uu,uu,uu,uu,uu,uu,uu,uu,uu,uu,uu]) (s':= [.dead]) mixed [tC (by ((try simp only [Vu,Vx,Vy,Vv,bm] at*);(try unfold bn at*);omega):(decide ((↑k:Int)<(↑m:Int)))=false)] (by kernel_rfl)).cast (by rfl) (by rfl)
theorem Ip (l:List D) (m k:Nat) (es:List (Int×D)) (hk:k<m) (a b:Int) (hx:l[k]? =some (.agg [.int .i8 a,.int .i8 b])) (hm:m≤64) (hl:dC es a=some (.int .i64 1)):ak Tryz.prog (aC Tryz.f96 0) ⟨[2],[],[]⟩ 1 [uu,uu,uu,D.bA (0:Nat),uu,uu,uu,.aq .no 2 l,.int .i64 (↑m:Int),.int .i64 (↑k:Int),uu,uu,uu,uu,uu,uu,uu,uu,uu,uu,uu,uu,uu,uu,uu,uu,uu,uu,uu,uu,uu,uu,uu,uu,uu,uu] [Ob.mp W3.i8 es] (Ex.ret) [uu,uu,.bool false,uu,uu,uu,uu,uu,uu,uu,uu,uu,uu,uu,uu,uu,uu,uu,uu,uu,uu,uu,uu,uu,uu,uu,uu,uu,uu,uu,uu,uu,uu,uu,uu,uu] ([.dead]):=by
 exact (ak.ao (sp:=⟨[2],[],[]⟩) (n0:=1) (ex:=Ex.ret) (t':= [uu,uu,.bool false,uu,uu,uu,uu,uu,uu,uu,uu,uu,uu,uu,uu,uu,uu,uu,uu,uu,uu,uu,uu,uu,uu,uu,uu,uu,uu,uu,uu,uu,uu,uu,uu,uu]) (s':= [.dead]) mixed [tC (by ((try simp only [Vu,Vx,Vy,Vv,bm] at*);(try unfold bn at*);omega):(decide ((↑k:Int)<(↑m:Int)))=true),tT,.get _ _ _ hx,.lr _ _ _ hl,.lr _ _ _ (@jU es a (bJ [uu,uu,uu,D.bA (0:Nat),uu,.ptr false 1 0,uu,.aq .no 2 l,.int .i64 (↑m:Int),.int .i64 (↑k:Int),.bool (decide ((↑k:Int)<(↑m:Int))),D.cN false (.agg [.int .i8 a,.int .i8 b]) (0:Nat),.agg [.int .i8 a,.int .i8 b],D.bA (0:Nat),.ptr false 1 0,.int .i8 a,.int .i64 1,.int .i64 2,uu,uu,uu,uu,uu,uu,uu,uu,uu,uu,uu,uu,uu,uu,uu,uu,uu,uu] (WS (17:Nat)))),tF,tF,tF,tF,tT,tF,tF,tF,tF,tT,tT] (by kernel_rfl)).cast (by rfl) (by rfl)
theorem LM (l:List D) (m k:Nat) (es:List (Int×D)) (hk:k<m) (a b:Int) (hx:l[k]? =some (.agg [.int .i8 a,.int .i8 b])) (hm:m≤64) (hl:dC es a=none) (ra:fO a=false):ak Tryz.prog (aC Tryz.f96 0) ⟨[2],[],[]⟩ 1 [uu,uu,uu,D.bA (0:Nat),uu,uu,uu,.aq .no 2 l,.int .i64 (↑m:Int),.int .i64 (↑k:Int),uu,uu,uu,uu,uu,uu,uu,uu,uu,uu,uu,uu,uu,uu,uu,uu,uu,uu,uu,uu,uu,uu,uu,uu,uu,uu] [Ob.mp W3.i8 es] (Ex.ret) [uu,uu,.bool false,uu,uu,uu,uu,uu,uu,uu,uu,uu,uu,uu,uu,uu,uu,uu,uu,uu,uu,uu,uu,uu,uu,uu,uu,uu,uu,uu,uu,uu,uu,uu,uu,uu] ([.dead]):=by
 have c0:= @iM a
 exact (ak.ao (sp:=⟨[2],[],[]⟩) (n0:=1) (ex:=Ex.ret) (t':= [uu,uu,.bool false,uu,uu,uu,uu,uu,uu,uu,uu,uu,uu,uu,uu,uu,uu,uu,uu,uu,uu,uu,uu,uu,uu,uu,uu,uu,uu,uu,uu,uu,uu,uu,uu,uu]) (s':= [.dead]) mixed ([tC (by ((try simp only [Vu,Vx,Vy,Vv,bm] at*);(try unfold bn at*);omega):(decide ((↑k:Int)<(↑m:Int)))=true),tT,.get _ _ _ hx,.lr _ _ _ hl,.lr _ _ _ (@jU es a (bJ [uu,uu,uu,D.bA (0:Nat),uu,.ptr false 1 0,uu,.aq .no 2 l,.int .i64 (↑m:Int),.int .i64 (↑k:Int),.bool (decide ((↑k:Int)<(↑m:Int))),D.cN false (.agg [.int .i8 a,.int .i8 b]) (0:Nat),.agg [.int .i8 a,.int .i8 b],D.bA (0:Nat),.ptr false 1 0,.int .i8 a,.int .i64 0,.int .i64 1,uu,uu,uu,uu,uu,uu,uu,uu,uu,uu,uu,uu,uu,uu,uu,uu,uu,uu] (WS (17:Nat)))),tT,tT,tT,.ret _ _ _ c0,tT,tF]++Vt 4 (tC (eF (nt ra)))++ [tC (nt ra),tT]) (by kernel_rfl)).cast (by rfl) (by rfl)
theorem LL (l:List D) (m k:Nat) (es:List (Int×D)) (hk:k<m) (a b:Int) (hx:l[k]? =some (.agg [.int .i8 a,.int .i8 b])) (hm:m≤64) (hl:dC es a=none) (ra:fO a=true) (rb:fO b=false):ak Tryz.prog (aC Tryz.f96 0) ⟨[2],[],[]⟩ 1 [uu,uu,uu,D.bA (0:Nat),uu,uu,uu,.aq .no 2 l,.int .i64 (↑m:Int),.int .i64 (↑k:Int),uu,uu,uu,uu,uu,uu,uu,uu,uu,uu,uu,uu,uu,uu,uu,uu,uu,uu,uu,uu,uu,uu,uu,uu,uu,uu] [Ob.mp W3.i8 es] (Ex.ret) [uu,uu,.bool false,uu,uu,uu,uu,uu,uu,uu,uu,uu,uu,uu,uu,uu,uu,uu,uu,uu,uu,uu,uu,uu,uu,uu,uu,uu,uu,uu,uu,uu,uu,uu,uu,uu] ([.dead]):=by
 have c0:= @iM a
 have c1:= @iM b
 exact (ak.ao (sp:=⟨[2],[],[]⟩) (n0:=1) (ex:=Ex.ret) (t':= [uu,uu,.bool false,uu,uu,uu,uu,uu,uu,uu,uu,uu,uu,uu,uu,uu,uu,uu,uu,uu,uu,uu,uu,uu,uu,uu,uu,uu,uu,uu,uu,uu,uu,uu,uu,uu]) (s':= [.dead]) mixed ([tC (by ((try simp only [Vu,Vx,Vy,Vv,bm] at*);(try unfold bn at*);omega):(decide ((↑k:Int)<(↑m:Int)))=true),tT,.get _ _ _ hx,.lr _ _ _ hl,.lr _ _ _ (@jU es a (bJ [uu,uu,uu,D.bA (0:Nat),uu,.ptr false 1 0,uu,.aq .no 2 l,.int .i64 (↑m:Int),.int .i64 (↑k:Int),.bool (decide ((↑k:Int)<(↑m:Int))),D.cN false (.agg [.int .i8 a,.int .i8 b]) (0:Nat),.agg [.int .i8 a,.int .i8 b],D.bA (0:Nat),.ptr false 1 0,.int .i8 a,.int .i64 0,.int .i64 1,uu,uu,uu,uu,uu,uu,uu,uu,uu,uu,uu,uu,uu,uu,uu,uu,uu,uu] (WS (17:Nat)))),tT,tT,tT,.ret _ _ _ c0,tT,tF]++Vt 3 (tC (eF (nt ra)))++ [.ret _ _ _ c1,tC (eF (nt ra)),tC (nt ra),tC (nt rb)]) (by kernel_rfl)).cast (by rfl) (by rfl)
theorem Ha (l:List D) (m k:Nat) (es:List (Int×D)) (hk:k<m) (a b:Int) (hx:l[k]? =some (.agg [.int .i8 a,.int .i8 b])) (hm:m≤64) (hl:dC es a=none) (ra:fO a=true) (rb:fO b=true):ak Tryz.prog (aC Tryz.f96 0) ⟨[3,7,8,9],[0],[]⟩ 1 [uu,uu,uu,D.bA (0:Nat),uu,uu,uu,.aq .no 2 l,.int .i64 (↑m:Int),.int .i64 (↑k:Int),uu,uu,uu,uu,uu,uu,uu,uu,uu,uu,uu,uu,uu,uu,uu,uu,uu,uu,uu,uu,uu,uu,uu,uu,uu,uu] [Ob.mp W3.i8 es] .norm [uu,uu,uu,D.bA (0:Nat),uu,uu,uu,.aq .no 2 l,.int .i64 (↑m:Int),.int .i64 (W3.i64.wrap ((↑k:Int)+1)),uu,uu,uu,uu,uu,uu,uu,uu,uu,uu,uu,uu,uu,uu,uu,uu,uu,uu,uu,uu,uu,uu,uu,uu,uu,uu] ([.mp .i8 (eH es a (.int .i64 1))]):=by
 have c0:= @iM a
 have c1:= @iM b
 exact (ak.ao (sp:=⟨[3,7,8,9],[0],[]⟩) (n0:=1) (ex:=Ex.norm) (t':= [uu,uu,uu,D.bA (0:Nat),uu,uu,uu,.aq .no 2 l,.int .i64 (↑m:Int),.int .i64 (W3.i64.wrap ((↑k:Int)+1)),uu,uu,uu,uu,uu,uu,uu,uu,uu,uu,uu,uu,uu,uu,uu,uu,uu,uu,uu,uu,uu,uu,uu,uu,uu,uu]) (s':= [Ob.mp W3.i8 (eH es a (bJ [uu,uu,uu,D.bA (0:Nat),uu,.ptr false (VD [Ob.mp W3.i8 es]) (0:Nat),uu,.aq .no 2 l,.int .i64 (↑m:Int),.int .i64 (↑k:Int),.bool (decide ((↑k:Int)<(↑m:Int))),D.cN false (.agg [.int .i8 a,.int .i8 b]) (0:Nat),.agg [.int .i8 a,.int .i8 b],D.bA (0:Nat),.ptr (false|| !isConst (W2 (W0 W3.i64 0))) (VD [Ob.mp W3.i8 es]) ((0:Nat)+VP 0*Ws Tryz.prog (23:Nat)),.int .i8 a,.int .i64 0,.int .i64 (W3.i64.wrap (0+1)),uu,uu,uu,uu,uu,uu,uu,uu,uu,uu,uu,uu,uu,uu,uu,uu,uu,uu] (WS (17:Nat))))]) mixed ([tC (by ((try simp only [Vu,Vx,Vy,Vv,bm] at*);(try unfold bn at*);omega):(decide ((↑k:Int)<(↑m:Int)))=true),tT,.get _ _ _ hx,.lr _ _ _ hl,.lr _ _ _ (@jU es a (bJ [uu,uu,uu,D.bA (0:Nat),uu,.ptr false 1 0,uu,.aq .no 2 l,.int .i64 (↑m:Int),.int .i64 (↑k:Int),.bool (decide ((↑k:Int)<(↑m:Int))),D.cN false (.agg [.int .i8 a,.int .i8 b]) (0:Nat),.agg [.int .i8 a,.int .i8 b],D.bA (0:Nat),.ptr false 1 0,.int .i8 a,.int .i64 0,.int .i64 1,uu,uu,uu,uu,uu,uu,uu,uu,uu,uu,uu,uu,uu,uu,uu,uu,uu,uu] (WS (17:Nat)))),tT,tT,tT,.ret _ _ _ c0,tT,tF]++Vt 3 (tC (eF (nt ra)))++ [.ret _ _ _ c1,tC (eF (nt ra)),tC (nt ra),tC (nt rb)]) (by kernel_rfl)).cast (by rfl) (by rfl)
theorem It (l:List D) (m k:Nat) (sc:Int) (h:m≤k):ak Tryz.prog (aC Tryz.f65 0) ⟨[0,1],[],[]⟩ 0 [.aq .no 2 l,.int .i8 sc,uu,uu,uu,uu,uu,.aq .no 2 l,.int .i64 (↑m:Int),.int .i64 (↑k:Int),uu,uu,uu,uu,uu,uu,uu,uu,uu,uu,uu,uu,uu,uu,uu,uu,uu,uu,uu,uu] [] (.exit 0) [.aq .no 2 l,.int .i8 sc,uu,uu,uu,uu,uu,uu,uu,uu,uu,uu,uu,uu,uu,uu,uu,uu,uu,uu,uu,uu,uu,uu,uu,uu,uu,uu,uu,uu] ([]):=by
 exact (ak.ao (sp:=⟨[0,1],[],[]⟩) (n0:=0) (ex:=Ex.exit (0:Nat)) (t':= [.aq .no 2 l,.int .i8 sc,uu,uu,uu,uu,uu,uu,uu,uu,uu,uu,uu,uu,uu,uu,uu,uu,uu,uu,uu,uu,uu,uu,uu,uu,uu,uu,uu,uu]) (s':= []) mixed [tC (by ((try simp only [Vu,Vx,Vy,Vv,bm] at*);(try unfold bn at*);omega):(decide ((↑k:Int)<(↑m:Int)))=false)] (by kernel_rfl)).cast (by rfl) (by rfl)
theorem LP (l:List D) (m k:Nat) (sc:Int) (hk:k<m) (a b:Int) (hx:l[k]? =some (.agg [.int .i8 a,.int .i8 b])) (hm:m≤64) (h1:(a==sc)=true):ak Tryz.prog (aC Tryz.f65 0) ⟨[4],[],[]⟩ 0 [.aq .no 2 l,.int .i8 sc,uu,uu,uu,uu,uu,.aq .no 2 l,.int .i64 (↑m:Int),.int .i64 (↑k:Int),uu,uu,uu,uu,uu,uu,uu,uu,uu,uu,uu,uu,uu,uu,uu,uu,uu,uu,uu,uu] [] (Ex.ret) [uu,uu,uu,uu,.bool false,uu,uu,uu,uu,uu,uu,uu,uu,uu,uu,uu,uu,uu,uu,uu,uu,uu,uu,uu,uu,uu,uu,uu,uu,uu] ([]):=by
 exact (ak.ao (sp:=⟨[4],[],[]⟩) (n0:=0) (ex:=Ex.ret) (t':= [uu,uu,uu,uu,.bool false,uu,uu,uu,uu,uu,uu,uu,uu,uu,uu,uu,uu,uu,uu,uu,uu,uu,uu,uu,uu,uu,uu,uu,uu,uu]) (s':= []) mixed ([tC (by ((try simp only [Vu,Vx,Vy,Vv,bm] at*);(try unfold bn at*);omega):(decide ((↑k:Int)<(↑m:Int)))=true),tT,.get _ _ _ hx]++Vt 4 (tC (eF h1))++ [tC h1,tT]) (by kernel_rfl)).cast (by rfl) (by rfl)
theorem LO (l:List D) (m k:Nat) (sc:Int) (hk:k<m) (a b:Int) (hx:l[k]? =some (.agg [.int .i8 a,.int .i8 b])) (hm:m≤64) (h1:(a==sc)=false) (h2:(b==sc)=true):ak Tryz.prog (aC Tryz.f65 0) ⟨[4],[],[]⟩ 0 [.aq .no 2 l,.int .i8 sc,uu,uu,uu,uu,uu,.aq .no 2 l,.int .i64 (↑m:Int),.int .i64 (↑k:Int),uu,uu,uu,uu,uu,uu,uu,uu,uu,uu,uu,uu,uu,uu,uu,uu,uu,uu,uu,uu] [] (Ex.ret) [uu,uu,uu,uu,.bool false,uu,uu,uu,uu,uu,uu,uu,uu,uu,uu,uu,uu,uu,uu,uu,uu,uu,uu,uu,uu,uu,uu,uu,uu,uu] ([]):=by
 exact (ak.ao (sp:=⟨[4],[],[]⟩) (n0:=0) (ex:=Ex.ret) (t':= [uu,uu,uu,uu,.bool false,uu,uu,uu,uu,uu,uu,uu,uu,uu,uu,uu,uu,uu,uu,uu,uu,uu,uu,uu,uu,uu,uu,uu,uu,uu]) (s':= []) mixed ([tC (by ((try simp only [Vu,Vx,Vy,Vv,bm] at*);(try unfold bn at*);omega):(decide ((↑k:Int)<(↑m:Int)))=true),tT,.get _ _ _ hx]++Vt 4 (tC (eF h1))++ [tC h1,tC h2]) (by kernel_rfl)).cast (by rfl) (by rfl)
theorem Hc (l:List D) (m k:Nat) (sc:Int) (hk:k<m) (a b:Int) (hx:l[k]? =some (.agg [.int .i8 a,.int .i8 b])) (hm:m≤64) (h1:(a==sc)=false) (h2:(b==sc)=false):ak Tryz.prog (aC Tryz.f65 0) ⟨[0,1,7,8,9],[],[]⟩ 0 [.aq .no 2 l,.int .i8 sc,uu,uu,uu,uu,uu,.aq .no 2 l,.int .i64 (↑m:Int),.int .i64 (↑k:Int),uu,uu,uu,uu,uu,uu,uu,uu,uu,uu,uu,uu,uu,uu,uu,uu,uu,uu,uu,uu] [] .norm [.aq .no 2 l,.int .i8 sc,uu,uu,uu,uu,uu,.aq .no 2 l,.int .i64 (↑m:Int),.int .i64 (W3.i64.wrap ((↑k:Int)+1)),uu,uu,uu,uu,uu,uu,uu,uu,uu,uu,uu,uu,uu,uu,uu,uu,uu,uu,uu,uu] ([]):=by
 exact (ak.ao (sp:=⟨[0,1,7,8,9],[],[]⟩) (n0:=0) (ex:=Ex.norm) (t':= [.aq .no 2 l,.int .i8 sc,uu,uu,uu,uu,uu,.aq .no 2 l,.int .i64 (↑m:Int),.int .i64 (W3.i64.wrap ((↑k:Int)+1)),uu,uu,uu,uu,uu,uu,uu,uu,uu,uu,uu,uu,uu,uu,uu,uu,uu,uu,uu,uu]) (s':= []) mixed ([tC (by ((try simp only [Vu,Vx,Vy,Vv,bm] at*);(try unfold bn at*);omega):(decide ((↑k:Int)<(↑m:Int)))=true),tT,.get _ _ _ hx]++Vt 4 (tC (eF h1))++ [tC h1,tC h2]) (by kernel_rfl)).cast (by rfl) (by rfl)
theorem FQ (cs:List D) (Pg:∀c∈cs,c.clean=true) (es:List (Int×D)) (m k:Nat) (hm:m≤64) (PG:cs.length=m*2) (h:m≤k):ak Tryz.prog (aC Tryz.f66 0) ⟨[0,4],[3,5,1000004],[]⟩ 6 [.bP 4 2 m,uu,uu,uu,D.bA (5:Nat),uu,uu,uu,uu,uu,uu,.bP 4 2 m,.int .i64 (↑m:Int),.int .i64 (↑k:Int),uu,uu,uu,uu,uu,uu,uu,uu,uu,uu,uu,uu,uu,uu,uu,uu,uu,uu,uu,uu,uu,uu,uu,uu,uu,uu,uu,uu,uu] [.dead,.dead,.dead,.bg 0 2,.box cs,Ob.mp W3.i8 es] (.exit 0) [.bP 4 2 m,uu,uu,uu,D.bA (5:Nat),uu,uu,uu,uu,uu,uu,uu,uu,uu,uu,uu,uu,uu,uu,uu,uu,uu,uu,uu,uu,uu,uu,uu,uu,uu,uu,uu,uu,uu,uu,uu,uu,uu,uu,uu,uu,uu,uu] ([.dead,.dead,.dead,.bg 0 2,.box (VY D.aG cs),Ob.mp W3.i8 es]):=by
 exact (ak.ao (sp:=⟨[0,4],[3,5,1000004],[]⟩) (n0:=6) (ex:=Ex.exit (0:Nat)) (t':= [.bP 4 2 m,uu,uu,uu,D.bA (5:Nat),uu,uu,uu,uu,uu,uu,uu,uu,uu,uu,uu,uu,uu,uu,uu,uu,uu,uu,uu,uu,uu,uu,uu,uu,uu,uu,uu,uu,uu,uu,uu,uu,uu,uu,uu,uu,uu,uu]) (s':= [.dead,.dead,.dead,.bg 0 2,.box (VY D.aG cs),Ob.mp W3.i8 es]) mixed [tC (by ((try simp only [Vu,Vx,Vy,Vv,bm] at*);(try unfold bn at*);omega):(decide ((↑k:Int)<(↑m:Int)))=false),.cl cs (by first|exact cO rfl|exact Pg|exact dV Pg rfl|exact fi Pg rfl|exact dm Pg)] (by kernel_rfl)).cast (by rfl) (by rfl)
theorem FO (cs:List D) (Pg:∀c∈cs,c.clean=true) (es:List (Int×D)) (m k:Nat) (hm:m≤64) (PG:cs.length=m*2) (hk:k<m) (a b:Int) (hA:eG cs (k*2) 2 [.int .i8 a,.int .i8 b]) (hl:dC es b=none):ak Tryz.prog (aC Tryz.f66 0) ⟨[0,4,11,12,13],[3,5,1000004],[]⟩ 6 [.bP 4 2 m,uu,uu,uu,D.bA (5:Nat),uu,uu,uu,uu,uu,uu,.bP 4 2 m,.int .i64 (↑m:Int),.int .i64 (↑k:Int),uu,uu,uu,uu,uu,uu,uu,uu,uu,uu,uu,uu,uu,uu,uu,uu,uu,uu,uu,uu,uu,uu,uu,uu,uu,uu,uu,uu,uu] [.dead,.dead,.dead,.bg 0 2,.box cs,Ob.mp W3.i8 es] .norm [.bP 4 2 m,uu,uu,uu,D.bA (5:Nat),uu,uu,uu,uu,uu,uu,.bP 4 2 m,.int .i64 (↑m:Int),.int .i64 (W3.i64.wrap ((↑k:Int)+1)),uu,uu,uu,uu,uu,uu,uu,uu,uu,uu,uu,uu,uu,uu,uu,uu,uu,uu,uu,uu,uu,uu,uu,uu,uu,uu,uu,uu,uu] ([.dead,.dead,.dead,.bg 0 2,.box (VY D.aG cs),.mp .i8 (eH es b (.int .i64 1))]):=by
 exact (ak.ao (sp:=⟨[0,4,11,12,13],[3,5,1000004],[]⟩) (n0:=6) (ex:=Ex.norm) (t':= [.bP 4 2 m,uu,uu,uu,D.bA (5:Nat),uu,uu,uu,uu,uu,uu,.bP 4 2 m,.int .i64 (↑m:Int),.int .i64 (W3.i64.wrap ((↑k:Int)+1)),uu,uu,uu,uu,uu,uu,uu,uu,uu,uu,uu,uu,uu,uu,uu,uu,uu,uu,uu,uu,uu,uu,uu,uu,uu,uu,uu,uu,uu]) (s':= [.dead,.dead,.dead,.bg 0 2,.box (VY D.aG cs),Ob.mp W3.i8 (eH es b (bJ [.bP 4 2 m,uu,uu,uu,D.bA (5:Nat),uu,.ptr false (VD [.dead,.dead,.dead,.bg 0 2,.box cs,Ob.mp W3.i8 es]) (0:Nat),uu,uu,uu,uu,.bP 4 2 m,.int .i64 (↑m:Int),.int .i64 (↑k:Int),.bool (decide ((↑k:Int)<(↑m:Int))),.ptr true (4:Nat) (VP (↑k:Int)*(2:Nat)),.agg [.int .i8 a,.int .i8 b],D.bA (5:Nat),.ptr (false|| !isConst (W2 (W0 W3.i64 1))) (VD [.dead,.dead,.dead,.bg 0 2,.box cs,Ob.mp W3.i8 es]) ((0:Nat)+VP 1*Ws Tryz.prog (23:Nat)),.int .i8 b,.int .i64 0,.int .i64 (W3.i64.wrap (0+1)),uu,uu,uu,uu,uu,uu,uu,uu,uu,uu,uu,uu,uu,uu,uu,uu,uu,uu,uu,uu,uu] (WS (21:Nat))))]) mixed [tC (by ((try simp only [Vu,Vx,Vy,Vv,bm] at*);(try unfold bn at*);omega):(decide ((↑k:Int)<(↑m:Int)))=true),.dM (decide (0≤(↑k:Int)∧(↑k:Int)<(↑m:Int))) true (by ((try simp only [Vu,Vx,Vy,Vv,bm] at*);(try unfold bn at*);omega)),.bc _ _ _ _ (@ew cs (VP (↑k:Int)*(2:Nat)) ((2:Nat)) _ hA),.lr _ _ _ hl,.cl cs (by first|exact cO rfl|exact Pg|exact dV Pg rfl|exact fi Pg rfl|exact dm Pg)] (by kernel_rfl)).cast (by rfl) (by rfl)
theorem FN (cs:List D) (Pg:∀c∈cs,c.clean=true) (es:List (Int×D)) (m k:Nat) (hm:m≤64) (PG:cs.length=m*2) (hk:k<m) (a b:Int) (hA:eG cs (k*2) 2 [.int .i8 a,.int .i8 b]) (c:Int) (hl:dC es b=some (.int .i64 c)):ak Tryz.prog (aC Tryz.f66 0) ⟨[0,4,11,12,13],[3,5,1000004],[]⟩ 6 [.bP 4 2 m,uu,uu,uu,D.bA (5:Nat),uu,uu,uu,uu,uu,uu,.bP 4 2 m,.int .i64 (↑m:Int),.int .i64 (↑k:Int),uu,uu,uu,uu,uu,uu,uu,uu,uu,uu,uu,uu,uu,uu,uu,uu,uu,uu,uu,uu,uu,uu,uu,uu,uu,uu,uu,uu,uu] [.dead,.dead,.dead,.bg 0 2,.box cs,Ob.mp W3.i8 es] .norm [.bP 4 2 m,uu,uu,uu,D.bA (5:Nat),uu,uu,uu,uu,uu,uu,.bP 4 2 m,.int .i64 (↑m:Int),.int .i64 (W3.i64.wrap ((↑k:Int)+1)),uu,uu,uu,uu,uu,uu,uu,uu,uu,uu,uu,uu,uu,uu,uu,uu,uu,uu,uu,uu,uu,uu,uu,uu,uu,uu,uu,uu,uu] ([.dead,.dead,.dead,.bg 0 2,.box (VY D.aG cs),.mp .i8 (eH es b (.int .i64 (W3.i64.wrap (c+1))))]):=by
 exact (ak.ao (sp:=⟨[0,4,11,12,13],[3,5,1000004],[]⟩) (n0:=6) (ex:=Ex.norm) (t':= [.bP 4 2 m,uu,uu,uu,D.bA (5:Nat),uu,uu,uu,uu,uu,uu,.bP 4 2 m,.int .i64 (↑m:Int),.int .i64 (W3.i64.wrap ((↑k:Int)+1)),uu,uu,uu,uu,uu,uu,uu,uu,uu,uu,uu,uu,uu,uu,uu,uu,uu,uu,uu,uu,uu,uu,uu,uu,uu,uu,uu,uu,uu]) (s':= [.dead,.dead,.dead,.bg 0 2,.box (VY D.aG cs),Ob.mp W3.i8 (eH es b (bJ [.bP 4 2 m,uu,uu,uu,D.bA (5:Nat),uu,.ptr false (VD [.dead,.dead,.dead,.bg 0 2,.box cs,Ob.mp W3.i8 es]) (0:Nat),uu,uu,uu,uu,.bP 4 2 m,.int .i64 (↑m:Int),.int .i64 (↑k:Int),.bool (decide ((↑k:Int)<(↑m:Int))),.ptr true (4:Nat) (VP (↑k:Int)*(2:Nat)),.agg [.int .i8 a,.int .i8 b],D.bA (5:Nat),.ptr (false|| !isConst (W2 (W0 W3.i64 1))) (VD [.dead,.dead,.dead,.bg 0 2,.box cs,Ob.mp W3.i8 es]) ((0:Nat)+VP 1*Ws Tryz.prog (23:Nat)),.int .i8 b,.int .i64 c,.int .i64 (W3.i64.wrap (c+1)),uu,uu,uu,uu,uu,uu,uu,uu,uu,uu,uu,uu,uu,uu,uu,uu,uu,uu,uu,uu,uu] (WS (21:Nat))))]) mixed [tC (by ((try simp only [Vu,Vx,Vy,Vv,bm] at*);(try unfold bn at*);omega):(decide ((↑k:Int)<(↑m:Int)))=true),.dM (decide (0≤(↑k:Int)∧(↑k:Int)<(↑m:Int))) true (by ((try simp only [Vu,Vx,Vy,Vv,bm] at*);(try unfold bn at*);omega)),.bc _ _ _ _ (@ew cs (VP (↑k:Int)*(2:Nat)) ((2:Nat)) _ hA),.lr _ _ _ hl,.cl cs (by first|exact cO rfl|exact Pg|exact dV Pg rfl|exact fi Pg rfl|exact dm Pg)] (by kernel_rfl)).cast (by rfl) (by rfl)
theorem FM (cs:List D) (Pg:∀c∈cs,c.clean=true) (es:List (Int×D)) (m k:Nat) (hm:m≤64) (PG:cs.length=m*2) (h:m≤k):ak Tryz.prog (aC Tryz.f66 1) ⟨[],[3,1000004],[]⟩ 6 [uu,uu,uu,uu,D.bA (5:Nat),uu,uu,uu,uu,uu,uu,uu,uu,uu,uu,uu,uu,uu,uu,uu,uu,uu,uu,.bP 4 2 m,.int .i64 (↑m:Int),.int .i64 (↑k:Int),uu,uu,uu,uu,uu,uu,uu,uu,uu,uu,uu,uu,uu,uu,uu,uu,uu] [.dead,.dead,.dead,.bg 0 2,.box cs,Ob.mp W3.i8 es] (.exit 2) [uu,uu,uu,uu,uu,uu,uu,uu,uu,uu,uu,uu,uu,uu,uu,uu,uu,uu,uu,uu,uu,uu,uu,uu,uu,uu,uu,uu,uu,uu,uu,uu,uu,uu,uu,uu,uu,uu,uu,uu,uu,uu,uu] ([.dead,.dead,.dead,.bg 0 2,.box (VY D.aG cs),.dead]):=by
 exact (ak.ao (sp:=⟨[],[3,1000004],[]⟩) (n0:=6) (ex:=Ex.exit (2:Nat)) (t':= [uu,uu,uu,uu,uu,uu,uu,uu,uu,uu,uu,uu,uu,uu,uu,uu,uu,uu,uu,uu,uu,uu,uu,uu,uu,uu,uu,uu,uu,uu,uu,uu,uu,uu,uu,uu,uu,uu,uu,uu,uu,uu,uu]) (s':= [.dead,.dead,.dead,.bg 0 2,.box (VY D.aG cs),.dead]) mixed [tC (by ((try simp only [Vu,Vx,Vy,Vv,bm] at*);(try unfold bn at*);omega):(decide ((↑k:Int)<(↑m:Int)))=false),.cl cs (by first|exact cO rfl|exact Pg|exact dV Pg rfl|exact fi Pg rfl|exact dm Pg)] (by kernel_rfl)).cast (by rfl) (by rfl)
theorem FL (cs:List D) (Pg:∀c∈cs,c.clean=true) (es:List (Int×D)) (m k:Nat) (hm:m≤64) (PG:cs.length=m*2) (hk:k<m) (a b:Int) (hA:eG cs (k*2) 2 [.int .i8 a,.int .i8 b]) (Px:(a==b)=false) (hl:dC es a=none):ak Tryz.prog (aC Tryz.f66 1) ⟨[2,3],[3,1000004],[]⟩ 6 [uu,uu,uu,uu,D.bA (5:Nat),uu,uu,uu,uu,uu,uu,uu,uu,uu,uu,uu,uu,uu,uu,uu,uu,uu,uu,.bP 4 2 m,.int .i64 (↑m:Int),.int .i64 (↑k:Int),uu,uu,uu,uu,uu,uu,uu,uu,uu,uu,uu,uu,uu,uu,uu,uu,uu] [.dead,.dead,.dead,.bg 0 2,.box cs,Ob.mp W3.i8 es] (Ex.ret) [uu,uu,.int .i64 (↑k:Int),.bool true,uu,uu,uu,uu,uu,uu,uu,uu,uu,uu,uu,uu,uu,uu,uu,uu,uu,uu,uu,uu,uu,uu,uu,uu,uu,uu,uu,uu,uu,uu,uu,uu,uu,uu,uu,uu,uu,uu,uu] ([.dead,.dead,.dead,.bg 0 2,.box (VY D.aG cs),.dead]):=by
 exact (ak.ao (sp:=⟨[2,3],[3,1000004],[]⟩) (n0:=6) (ex:=Ex.ret) (t':= [uu,uu,.int .i64 (↑k:Int),.bool true,uu,uu,uu,uu,uu,uu,uu,uu,uu,uu,uu,uu,uu,uu,uu,uu,uu,uu,uu,uu,uu,uu,uu,uu,uu,uu,uu,uu,uu,uu,uu,uu,uu,uu,uu,uu,uu,uu,uu]) (s':= [.dead,.dead,.dead,.bg 0 2,.box (VY D.aG cs),.dead]) mixed [tC (by ((try simp only [Vu,Vx,Vy,Vv,bm] at*);(try unfold bn at*);omega):(decide ((↑k:Int)<(↑m:Int)))=true),.dM (decide (0≤(↑k:Int)∧(↑k:Int)<(↑m:Int))) true (by ((try simp only [Vu,Vx,Vy,Vv,bm] at*);(try unfold bn at*);omega)),.bc _ _ _ _ (@ew cs (VP (↑k:Int)*(2:Nat)) ((2:Nat)) _ hA),tC Px,.lr _ _ _ hl,tT,.cl cs (by first|exact cO rfl|exact Pg|exact dV Pg rfl|exact fi Pg rfl|exact dm Pg)] (by kernel_rfl)).cast (by rfl) (by rfl)
theorem H3 (cs:List D) (Pg:∀c∈cs,c.clean=true) (es:List (Int×D)) (m k:Nat) (hm:m≤64) (PG:cs.length=m*2) (hk:k<m) (a b:Int) (hA:eG cs (k*2) 2 [.int .i8 a,.int .i8 b]) (Px:(a==b)=false) (c:Int) (hl:dC es a=some (.int .i64 c)) (hc:(c==0)=false):ak Tryz.prog (aC Tryz.f66 1) ⟨[4,23,24,25],[3,5,1000004],[]⟩ 6 [uu,uu,uu,uu,D.bA (5:Nat),uu,uu,uu,uu,uu,uu,uu,uu,uu,uu,uu,uu,uu,uu,uu,uu,uu,uu,.bP 4 2 m,.int .i64 (↑m:Int),.int .i64 (↑k:Int),uu,uu,uu,uu,uu,uu,uu,uu,uu,uu,uu,uu,uu,uu,uu,uu,uu] [.dead,.dead,.dead,.bg 0 2,.box cs,Ob.mp W3.i8 es] .norm [uu,uu,uu,uu,D.bA (5:Nat),uu,uu,uu,uu,uu,uu,uu,uu,uu,uu,uu,uu,uu,uu,uu,uu,uu,uu,.bP 4 2 m,.int .i64 (↑m:Int),.int .i64 (W3.i64.wrap ((↑k:Int)+1)),uu,uu,uu,uu,uu,uu,uu,uu,uu,uu,uu,uu,uu,uu,uu,uu,uu] ([.dead,.dead,.dead,.bg 0 2,.box (VY D.aG cs),Ob.mp W3.i8 es]):=by
 exact (ak.ao (sp:=⟨[4,23,24,25],[3,5,1000004],[]⟩) (n0:=6) (ex:=Ex.norm) (t':= [uu,uu,uu,uu,D.bA (5:Nat),uu,uu,uu,uu,uu,uu,uu,uu,uu,uu,uu,uu,uu,uu,uu,uu,uu,uu,.bP 4 2 m,.int .i64 (↑m:Int),.int .i64 (W3.i64.wrap ((↑k:Int)+1)),uu,uu,uu,uu,uu,uu,uu,uu,uu,uu,uu,uu,uu,uu,uu,uu,uu]) (s':= [.dead,.dead,.dead,.bg 0 2,.box (VY D.aG cs),Ob.mp W3.i8 es]) mixed [tC (by ((try simp only [Vu,Vx,Vy,Vv,bm] at*);(try unfold bn at*);omega):(decide ((↑k:Int)<(↑m:Int)))=true),.dM (decide (0≤(↑k:Int)∧(↑k:Int)<(↑m:Int))) true (by ((try simp only [Vu,Vx,Vy,Vv,bm] at*);(try unfold bn at*);omega)),.bc _ _ _ _ (@ew cs (VP (↑k:Int)*(2:Nat)) ((2:Nat)) _ hA),tC Px,.lr _ _ _ hl,tC hc,.cl cs (by first|exact cO rfl|exact Pg|exact dV Pg rfl|exact fi Pg rfl|exact dm Pg)] (by kernel_rfl)).cast (by rfl) (by rfl)
theorem H6 (l:List D) (m k:Nat) (sc:Int) (es:List (List D×D)) (h:m≤k):ak Tryz.prog (aC Tryz.f47 0) ⟨[1,4,6],[],[]⟩ 2 ((uu)::(.int .i8 sc)::(uu)::(uu)::(.aq .tight 0 [])::(uu)::(.aq .tight 0 [])::(D.bA (1:Nat))::(un 16++(.aq .no 2 l)::(.int .i64 (↑m:Int))::(.int .i64 (↑k:Int))::(un 74))) [.dead,Ob.mf [LK.int W3.i8,LK.int W3.i8] es] (.exit 1) ((uu)::(.int .i8 sc)::(uu)::(uu)::(.aq .tight 0 [])::(uu)::(.aq .tight 0 [])::(un 94)) ([.dead,.dead]):=by
 exact (ak.ao (sp:=⟨[1,4,6],[],[]⟩) (n0:=2) (ex:=Ex.exit (1:Nat)) (t':=((uu)::(.int .i8 sc)::(uu)::(uu)::(.aq .tight 0 [])::(uu)::(.aq .tight 0 [])::(un 94))) (s':= [.dead,.dead]) mixed [tC (by ((try simp only [Vu,Vx,Vy,Vv,bm] at*);(try unfold bn at*);omega):(decide ((↑k:Int)<(↑m:Int)))=false)] (by kernel_rfl)).cast (by rfl) (by rfl)
theorem z4 (l:List D) (m k:Nat) (sc:Int) (es:List (List D×D)) (hk:k<m) (a b:Int) (hx:l[k]? =some (.agg [.int .i8 a,.int .i8 b])) (hm:m≤64) (he:(a==b)=true):ak Tryz.prog (aC Tryz.f47 0) ⟨[1,4,6,7,24,25,26],[1],[]⟩ 2 ((uu)::(.int .i8 sc)::(uu)::(uu)::(.aq .tight 0 [])::(uu)::(.aq .tight 0 [])::(D.bA (1:Nat))::(un 16++(.aq .no 2 l)::(.int .i64 (↑m:Int))::(.int .i64 (↑k:Int))::(un 74))) [.dead,Ob.mf [LK.int W3.i8,LK.int W3.i8] es] .norm ((uu)::(.int .i8 sc)::(uu)::(uu)::(.aq .tight 0 [])::(uu)::(.aq .tight 0 [])::(D.bA (1:Nat))::(un 16++(.aq .no 2 l)::(.int .i64 (↑m:Int))::(.int .i64 (W3.i64.wrap ((↑k:Int)+1)))::(un 74))) ([.dead,.mf [.int .i8,.int .i8] (fN es [.int .i8 a,.int .i8 b] (.bool (a==b)))]):=by
 exact (ak.ao (sp:=⟨[1,4,6,7,24,25,26],[1],[]⟩) (n0:=2) (ex:=Ex.norm) (t':=((uu)::(.int .i8 sc)::(uu)::(uu)::(.aq .tight 0 [])::(uu)::(.aq .tight 0 [])::(D.bA (1:Nat))::(un 16++(.aq .no 2 l)::(.int .i64 (↑m:Int))::(.int .i64 (W3.i64.wrap ((↑k:Int)+1)))::(un 74)))) (s':= [.dead,Ob.mf [LK.int W3.i8,LK.int W3.i8] (fN es [.int .i8 a,.int .i8 b] (bJ ((uu)::(.int .i8 sc)::(uu)::(uu)::(.aq .tight 0 [])::(uu)::(.aq .tight 0 [])::(D.bA (1:Nat))::(uu)::(.ptr false (VD [.dead,Ob.mf [LK.int W3.i8,LK.int W3.i8] es]) (0:Nat))::(un 14++(.aq .no 2 l)::(.int .i64 (↑m:Int))::(.int .i64 (↑k:Int))::(.bool (decide ((↑k:Int)<(↑m:Int))))::(D.cN false (.agg [.int .i8 a,.int .i8 b]) (0:Nat))::(.agg [.int .i8 a,.int .i8 b])::(D.bA (1:Nat))::(.agg [.int .i8 a,.int .i8 b])::(.ptr (false|| !isConst (W2 (W0 W3.i64 0))) (VD [.dead,Ob.mf [LK.int W3.i8,LK.int W3.i8] es]) ((0:Nat)+VP 0*Ws Tryz.prog (23:Nat)))::(.int .i8 a)::(.ptr (false|| !isConst (W2 (W0 W3.i64 1))) (VD [.dead,Ob.mf [LK.int W3.i8,LK.int W3.i8] es]) ((0:Nat)+VP 1*Ws Tryz.prog (23:Nat)))::(.int .i8 b)::(.bool (a==b))::(un 64))) (WS (36:Nat))))]) mixed [tC (by ((try simp only [Vu,Vx,Vy,Vv,bm] at*);(try unfold bn at*);omega):(decide ((↑k:Int)<(↑m:Int)))=true),tT,.get _ _ _ hx,.mU _ _ eY,.raw,.mU _ _ eY,.qe _ _ _ (@g3 es a b (bJ ((uu)::(.int .i8 sc)::(uu)::(uu)::(.aq .tight 0 [])::(uu)::(.aq .tight 0 [])::(D.bA (1:Nat))::(uu)::(.ptr false 2 0)::(un 14++(.aq .no 2 l)::(.int .i64 (↑m:Int))::(.int .i64 (↑k:Int))::(.bool (decide ((↑k:Int)<(↑m:Int))))::(D.cN false (.agg [.int .i8 a,.int .i8 b]) (0:Nat))::(.agg [.int .i8 a,.int .i8 b])::(D.bA (1:Nat))::(.agg [.int .i8 a,.int .i8 b])::(.ptr false 2 0)::(.int .i8 a)::(.ptr false 2 1)::(.int .i8 b)::(.bool (a==b))::(un 64))) (WS (36:Nat)))),tC (nt he)] (by kernel_rfl)).cast (by rfl) (by rfl)
theorem Dp (l:List D) (m k:Nat) (sc:Int) (es:List (List D×D)) (hk:k<m) (a b:Int) (hx:l[k]? =some (.agg [.int .i8 a,.int .i8 b])) (hm:m≤64) (he:(a==b)=false):ak Tryz.prog (aC Tryz.f47 0) ⟨[1,4,7,24,25,26],[1],[(6,2)]⟩ 2 ((uu)::(.int .i8 sc)::(uu)::(uu)::(.aq .tight 0 [])::(uu)::(.aq .tight 0 [])::(D.bA (1:Nat))::(un 16++(.aq .no 2 l)::(.int .i64 (↑m:Int))::(.int .i64 (↑k:Int))::(un 74))) [.dead,Ob.mf [LK.int W3.i8,LK.int W3.i8] es] .norm ((uu)::(.int .i8 sc)::(uu)::(uu)::(.aq .tight 0 [])::(uu)::(.bP 2 2 1)::(D.bA (1:Nat))::(un 16++(.aq .no 2 l)::(.int .i64 (↑m:Int))::(.int .i64 (W3.i64.wrap ((↑k:Int)+1)))::(un 74))) ([.dead,.mf [.int .i8,.int .i8] (fN es [.int .i8 a,.int .i8 b] (.bool (a==b))),.box [.int .i8 a,.int .i8 b]]):=by
 exact (ak.ao (sp:=⟨[1,4,7,24,25,26],[1],[(6,2)]⟩) (n0:=2) (ex:=Ex.norm) (t':=((uu)::(.int .i8 sc)::(uu)::(uu)::(.aq .tight 0 [])::(uu)::(.bP 2 2 1)::(D.bA (1:Nat))::(un 16++(.aq .no 2 l)::(.int .i64 (↑m:Int))::(.int .i64 (W3.i64.wrap ((↑k:Int)+1)))::(un 74)))) (s':= [.dead,Ob.mf [LK.int W3.i8,LK.int W3.i8] (fN es [.int .i8 a,.int .i8 b] (bJ ((uu)::(.int .i8 sc)::(uu)::(uu)::(.aq .tight 0 [])::(uu)::(.aq .tight 0 [])::(D.bA (1:Nat))::(uu)::(.ptr false (VD [.dead,Ob.mf [LK.int W3.i8,LK.int W3.i8] es]) (0:Nat))::(un 14++(.aq .no 2 l)::(.int .i64 (↑m:Int))::(.int .i64 (↑k:Int))::(.bool (decide ((↑k:Int)<(↑m:Int))))::(D.cN false (.agg [.int .i8 a,.int .i8 b]) (0:Nat))::(.agg [.int .i8 a,.int .i8 b])::(D.bA (1:Nat))::(.agg [.int .i8 a,.int .i8 b])::(.ptr (false|| !isConst (W2 (W0 W3.i64 0))) (VD [.dead,Ob.mf [LK.int W3.i8,LK.int W3.i8] es]) ((0:Nat)+VP 0*Ws Tryz.prog (23:Nat)))::(.int .i8 a)::(.ptr (false|| !isConst (W2 (W0 W3.i64 1))) (VD [.dead,Ob.mf [LK.int W3.i8,LK.int W3.i8] es]) ((0:Nat)+VP 1*Ws Tryz.prog (23:Nat)))::(.int .i8 b)::(.bool (a==b))::(un 64))) (WS (36:Nat)))),.box [.int .i8 a,.int .i8 b]]) mixed [tC (by ((try simp only [Vu,Vx,Vy,Vv,bm] at*);(try unfold bn at*);omega):(decide ((↑k:Int)<(↑m:Int)))=true),tT,.get _ _ _ hx,.mU _ _ eY,.raw,.mU _ _ eY,.qe _ _ _ (@g3 es a b (bJ ((uu)::(.int .i8 sc)::(uu)::(uu)::(.aq .tight 0 [])::(uu)::(.aq .tight 0 [])::(D.bA (1:Nat))::(uu)::(.ptr false 2 0)::(un 14++(.aq .no 2 l)::(.int .i64 (↑m:Int))::(.int .i64 (↑k:Int))::(.bool (decide ((↑k:Int)<(↑m:Int))))::(D.cN false (.agg [.int .i8 a,.int .i8 b]) (0:Nat))::(.agg [.int .i8 a,.int .i8 b])::(D.bA (1:Nat))::(.agg [.int .i8 a,.int .i8 b])::(.ptr false 2 0)::(.int .i8 a)::(.ptr false 2 1)::(.int .i8 b)::(.bool (a==b))::(un 64))) (WS (36:Nat)))),tC (nt he),.go 0,.len 1 2147483648 (by decide),.cl ([.int .i8 a,.int .i8 b]) (by exact cO rfl)] (by kernel_rfl)).cast (by rfl) (by rfl)
theorem H5 (l:List D) (m k:Nat) (sc:Int) (es:List (List D×D)) (cs:List D) (Pg:∀c∈cs,c.clean=true) (q:Nat) (hq:cs.length=q*2) (q1:q≤64) (h:m≤k):ak Tryz.prog (aC Tryz.f47 0) ⟨[1,4],[],[(6,2)]⟩ 2 ((uu)::(.int .i8 sc)::(uu)::(uu)::(.aq .tight 0 [])::(uu)::(.bP 2 2 q)::(D.bA (1:Nat))::(un 16++(.aq .no 2 l)::(.int .i64 (↑m:Int))::(.int .i64 (↑k:Int))::(un 74))) [.dead,Ob.mf [LK.int W3.i8,LK.int W3.i8] es,.box cs] (.exit 1) ((uu)::(.int .i8 sc)::(uu)::(uu)::(.aq .tight 0 [])::(uu)::(.bP 2 2 q)::(un 94)) ([.dead,.dead,.box (VY D.aG cs)]):=by
 exact (ak.ao (sp:=⟨[1,4],[],[(6,2)]⟩) (n0:=2) (ex:=Ex.exit (1:Nat)) (t':=((uu)::(.int .i8 sc)::(uu)::(uu)::(.aq .tight 0 [])::(uu)::(.bP 2 2 q)::(un 94))) (s':= [.dead,.dead,.box (VY D.aG cs)]) mixed [tC (by ((try simp only [Vu,Vx,Vy,Vv,bm] at*);(try unfold bn at*);omega):(decide ((↑k:Int)<(↑m:Int)))=false),.cl cs (by first|exact cO rfl|exact Pg|exact dV Pg rfl|exact fi Pg rfl|exact dm Pg)] (by kernel_rfl)).cast (by rfl) (by rfl)
theorem FV (l:List D) (m k:Nat) (sc:Int) (es:List (List D×D)) (cs:List D) (Pg:∀c∈cs,c.clean=true) (q:Nat) (hq:cs.length=q*2) (q1:q≤64) (hk:k<m) (a b:Int) (hx:l[k]? =some (.agg [.int .i8 a,.int .i8 b])) (hm:m≤64) (he:(a==b)=true):ak Tryz.prog (aC Tryz.f47 0) ⟨[1,4,7,24,25,26],[1],[(6,2)]⟩ 2 ((uu)::(.int .i8 sc)::(uu)::(uu)::(.aq .tight 0 [])::(uu)::(.bP 2 2 q)::(D.bA (1:Nat))::(un 16++(.aq .no 2 l)::(.int .i64 (↑m:Int))::(.int .i64 (↑k:Int))::(un 74))) [.dead,Ob.mf [LK.int W3.i8,LK.int W3.i8] es,.box cs] .norm ((uu)::(.int .i8 sc)::(uu)::(uu)::(.aq .tight 0 [])::(uu)::(.bP 2 2 q)::(D.bA (1:Nat))::(un 16++(.aq .no 2 l)::(.int .i64 (↑m:Int))::(.int .i64 (W3.i64.wrap ((↑k:Int)+1)))::(un 74))) ([.dead,.mf [.int .i8,.int .i8] (fN es [.int .i8 a,.int .i8 b] (.bool (a==b))),.box (VY D.aG cs)]):=by
 exact (ak.ao (sp:=⟨[1,4,7,24,25,26],[1],[(6,2)]⟩) (n0:=2) (ex:=Ex.norm) (t':=((uu)::(.int .i8 sc)::(uu)::(uu)::(.aq .tight 0 [])::(uu)::(.bP 2 2 q)::(D.bA (1:Nat))::(un 16++(.aq .no 2 l)::(.int .i64 (↑m:Int))::(.int .i64 (W3.i64.wrap ((↑k:Int)+1)))::(un 74)))) (s':= [.dead,Ob.mf [LK.int W3.i8,LK.int W3.i8] (fN es [.int .i8 a,.int .i8 b] (bJ ((uu)::(.int .i8 sc)::(uu)::(uu)::(.aq .tight 0 [])::(uu)::(.bP 2 2 q)::(D.bA (1:Nat))::(uu)::(.ptr false (VD [.dead,Ob.mf [LK.int W3.i8,LK.int W3.i8] es,.box cs]) (0:Nat))::(un 14++(.aq .no 2 l)::(.int .i64 (↑m:Int))::(.int .i64 (↑k:Int))::(.bool (decide ((↑k:Int)<(↑m:Int))))::(D.cN false (.agg [.int .i8 a,.int .i8 b]) (0:Nat))::(.agg [.int .i8 a,.int .i8 b])::(D.bA (1:Nat))::(.agg [.int .i8 a,.int .i8 b])::(.ptr (false|| !isConst (W2 (W0 W3.i64 0))) (VD [.dead,Ob.mf [LK.int W3.i8,LK.int W3.i8] es,.box cs]) ((0:Nat)+VP 0*Ws Tryz.prog (23:Nat)))::(.int .i8 a)::(.ptr (false|| !isConst (W2 (W0 W3.i64 1))) (VD [.dead,Ob.mf [LK.int W3.i8,LK.int W3.i8] es,.box cs]) ((0:Nat)+VP 1*Ws Tryz.prog (23:Nat)))::(.int .i8 b)::(.bool (a==b))::(un 64))) (WS (36:Nat)))),.box (VY D.aG cs)]) mixed [tC (by ((try simp only [Vu,Vx,Vy,Vv,bm] at*);(try unfold bn at*);omega):(decide ((↑k:Int)<(↑m:Int)))=true),tT,.get _ _ _ hx,.mU _ _ eY,.raw,.mU _ _ eY,.qe _ _ _ (@g3 es a b (bJ ((uu)::(.int .i8 sc)::(uu)::(uu)::(.aq .tight 0 [])::(uu)::(.bP 2 2 q)::(D.bA (1:Nat))::(uu)::(.ptr false 3 0)::(un 14++(.aq .no 2 l)::(.int .i64 (↑m:Int))::(.int .i64 (↑k:Int))::(.bool (decide ((↑k:Int)<(↑m:Int))))::(D.cN false (.agg [.int .i8 a,.int .i8 b]) (0:Nat))::(.agg [.int .i8 a,.int .i8 b])::(D.bA (1:Nat))::(.agg [.int .i8 a,.int .i8 b])::(.ptr false 3 0)::(.int .i8 a)::(.ptr false 3 1)::(.int .i8 b)::(.bool (a==b))::(un 64))) (WS (36:Nat)))),tC (nt he),.cl cs (by first|exact cO rfl|exact Pg|exact dV Pg rfl|exact fi Pg rfl|exact dm Pg)] (by kernel_rfl)).cast (by rfl) (by rfl)
theorem H4 (l:List D) (m k:Nat) (sc:Int) (es:List (List D×D)) (cs:List D) (Pg:∀c∈cs,c.clean=true) (q:Nat) (hq:cs.length=q*2) (q1:q≤64) (hk:k<m) (a b:Int) (hx:l[k]? =some (.agg [.int .i8 a,.int .i8 b])) (hm:m≤64) (he:(a==b)=false):ak Tryz.prog (aC Tryz.f47 0) ⟨[1,4,7,24,25,26],[1],[(6,2)]⟩ 2 ((uu)::(.int .i8 sc)::(uu)::(uu)::(.aq .tight 0 [])::(uu)::(.bP 2 2 q)::(D.bA (1:Nat))::(un 16++(.aq .no 2 l)::(.int .i64 (↑m:Int))::(.int .i64 (↑k:Int))::(un 74))) [.dead,Ob.mf [LK.int W3.i8,LK.int W3.i8] es,.box cs] .norm ((uu)::(.int .i8 sc)::(uu)::(uu)::(.aq .tight 0 [])::(uu)::(.bP 2 2 (q+(1:Nat)))::(D.bA (1:Nat))::(un 16++(.aq .no 2 l)::(.int .i64 (↑m:Int))::(.int .i64 (W3.i64.wrap ((↑k:Int)+1)))::(un 74))) ([.dead,.mf [.int .i8,.int .i8] (fN es [.int .i8 a,.int .i8 b] (.bool (a==b))),.box (VY D.aG (cs++ [.int .i8 a,.int .i8 b]))]):=by
 exact (ak.ao (sp:=⟨[1,4,7,24,25,26],[1],[(6,2)]⟩) (n0:=2) (ex:=Ex.norm) (t':=((uu)::(.int .i8 sc)::(uu)::(uu)::(.aq .tight 0 [])::(uu)::(.bP 2 2 (q+(1:Nat)))::(D.bA (1:Nat))::(un 16++(.aq .no 2 l)::(.int .i64 (↑m:Int))::(.int .i64 (W3.i64.wrap ((↑k:Int)+1)))::(un 74)))) (s':= [.dead,Ob.mf [LK.int W3.i8,LK.int W3.i8] (fN es [.int .i8 a,.int .i8 b] (bJ ((uu)::(.int .i8 sc)::(uu)::(uu)::(.aq .tight 0 [])::(uu)::(.bP 2 2 q)::(D.bA (1:Nat))::(uu)::(.ptr false (VD [.dead,Ob.mf [LK.int W3.i8,LK.int W3.i8] es,.box cs]) (0:Nat))::(un 14++(.aq .no 2 l)::(.int .i64 (↑m:Int))::(.int .i64 (↑k:Int))::(.bool (decide ((↑k:Int)<(↑m:Int))))::(D.cN false (.agg [.int .i8 a,.int .i8 b]) (0:Nat))::(.agg [.int .i8 a,.int .i8 b])::(D.bA (1:Nat))::(.agg [.int .i8 a,.int .i8 b])::(.ptr (false|| !isConst (W2 (W0 W3.i64 0))) (VD [.dead,Ob.mf [LK.int W3.i8,LK.int W3.i8] es,.box cs]) ((0:Nat)+VP 0*Ws Tryz.prog (23:Nat)))::(.int .i8 a)::(.ptr (false|| !isConst (W2 (W0 W3.i64 1))) (VD [.dead,Ob.mf [LK.int W3.i8,LK.int W3.i8] es,.box cs]) ((0:Nat)+VP 1*Ws Tryz.prog (23:Nat)))::(.int .i8 b)::(.bool (a==b))::(un 64))) (WS (36:Nat)))),.box (VY D.aG (cs++ [.int .i8 a,.int .i8 b]))]) mixed [tC (by ((try simp only [Vu,Vx,Vy,Vv,bm] at*);(try unfold bn at*);omega):(decide ((↑k:Int)<(↑m:Int)))=true),tT,.get _ _ _ hx,.mU _ _ eY,.raw,.mU _ _ eY,.qe _ _ _ (@g3 es a b (bJ ((uu)::(.int .i8 sc)::(uu)::(uu)::(.aq .tight 0 [])::(uu)::(.bP 2 2 q)::(D.bA (1:Nat))::(uu)::(.ptr false 3 0)::(un 14++(.aq .no 2 l)::(.int .i64 (↑m:Int))::(.int .i64 (↑k:Int))::(.bool (decide ((↑k:Int)<(↑m:Int))))::(D.cN false (.agg [.int .i8 a,.int .i8 b]) (0:Nat))::(.agg [.int .i8 a,.int .i8 b])::(D.bA (1:Nat))::(.agg [.int .i8 a,.int .i8 b])::(.ptr false 3 0)::(.int .i8 a)::(.ptr false 3 1)::(.int .i8 b)::(.bool (a==b))::(un 64))) (WS (36:Nat)))),tC (nt he),.len (q+(1:Nat)) ((2147483648:Nat)) (by first|decide|omega|(simp;omega)),tC (v:=true) (@wN cs q hq),.cl (cs++ [.int .i8 a,.int .i8 b]) (by first|exact cO rfl|exact Pg|exact dV Pg rfl|exact fi Pg rfl|exact dm Pg)] (by kernel_rfl)).cast (by rfl) (by rfl)
theorem HN (cs outs:List D) (Pg:∀c∈cs,c.clean=true) (sc f:Int) (m k:Nat) (hm:m≤64) (PG:cs.length=m*2) (h:m≤k):ak Tryz.prog (aC Tryz.f47 2) ⟨[1,4,6],[3,1000004],[]⟩ 6 ((uu)::(.int .i8 sc)::(uu)::(uu)::(.aq (.tok 3 1) 2 outs)::(uu)::(.bP 4 2 m)::(un 5++(.int .i8 f)::(un 54++(.int .i64 (↑m:Int))::(.int .i64 (↑k:Int))::(un 32)))) [.dead,.dead,.dead,.bg 1 2,.box cs,.dead] (.exit 5) ((uu)::(.int .i8 sc)::(uu)::(uu)::(.aq (.tok 3 1) 2 outs)::(uu)::(.bP 4 2 m)::(un 94)) ([.dead,.dead,.dead,.bg 1 2,.box (VY D.aG cs),.dead]):=by
 exact (ak.ao (sp:=⟨[1,4,6],[3,1000004],[]⟩) (n0:=6) (ex:=Ex.exit (5:Nat)) (t':=((uu)::(.int .i8 sc)::(uu)::(uu)::(.aq (.tok 3 1) 2 outs)::(uu)::(.bP 4 2 m)::(un 94))) (s':= [.dead,.dead,.dead,.bg 1 2,.box (VY D.aG cs),.dead]) mixed [tC (by ((try simp only [Vu,Vx,Vy,Vv,bm] at*);(try unfold bn at*);omega):(decide ((↑k:Int)<(↑m:Int)))=false),.cl cs (by first|exact cO rfl|exact Pg|exact dV Pg rfl|exact fi Pg rfl|exact dm Pg)] (by kernel_rfl)).cast (by rfl) (by rfl)
theorem Jl (cs outs:List D) (Pg:∀c∈cs,c.clean=true) (sc f:Int) (m k:Nat) (hm:m≤64) (PG:cs.length=m*2) (hk:k<m) (b:Int) (hb:cs[k*2+1]? =some (.int .i8 b)) (he:(b==f)=true):ak Tryz.prog (aC Tryz.f47 2) ⟨[1,4,6,12,67,68],[3,1000004],[]⟩ 6 ((uu)::(.int .i8 sc)::(uu)::(uu)::(.aq (.tok 3 1) 2 outs)::(uu)::(.bP 4 2 m)::(un 5++(.int .i8 f)::(un 54++(.int .i64 (↑m:Int))::(.int .i64 (↑k:Int))::(un 32)))) [.dead,.dead,.dead,.bg 1 2,.box cs,.dead] .norm ((uu)::(.int .i8 sc)::(uu)::(uu)::(.aq (.tok 3 1) 2 outs)::(uu)::(.bP 4 2 m)::(un 5++(.int .i8 f)::(un 54++(.int .i64 (↑m:Int))::(.int .i64 (W3.i64.wrap ((↑k:Int)+1)))::(un 32)))) ([.dead,.dead,.dead,.bg 1 2,.box (VY D.aG (List.set cs (VP (↑k:Int)*(2:Nat)+(1:Nat)) (.int .i8 sc))),.dead]):=by
 exact (ak.ao (sp:=⟨[1,4,6,12,67,68],[3,1000004],[]⟩) (n0:=6) (ex:=Ex.norm) (t':=((uu)::(.int .i8 sc)::(uu)::(uu)::(.aq (.tok 3 1) 2 outs)::(uu)::(.bP 4 2 m)::(un 5++(.int .i8 f)::(un 54++(.int .i64 (↑m:Int))::(.int .i64 (W3.i64.wrap ((↑k:Int)+1)))::(un 32))))) (s':= [.dead,.dead,.dead,.bg 1 2,.box (VY D.aG (List.set cs (VP (↑k:Int)*(2:Nat)+(1:Nat)) (.int .i8 sc))),.dead]) mixed [tC (by ((try simp only [Vu,Vx,Vy,Vv,bm] at*);(try unfold bn at*);omega):(decide ((↑k:Int)<(↑m:Int)))=true),.dM (decide (0≤(↑k:Int)∧(↑k:Int)<(↑m:Int))) true (by ((try simp only [Vu,Vx,Vy,Vv,bm] at*);(try unfold bn at*);omega)),.get _ _ _ hb,tC he,.dM (decide (0≤(↑k:Int)∧(↑k:Int)<(↑m:Int))) true (by ((try simp only [Vu,Vx,Vy,Vv,bm] at*);(try unfold bn at*);omega)),.Dv _ _ _ _ (@z7 cs (VP (↑k:Int)*(2:Nat)+(1:Nat)) (.int .i8 sc) (by ((try simp only [Vu,Vx,Vy,Vv,bm] at*);(try unfold bn at*);omega))),.raw,.cl (List.set cs (VP (↑k:Int)*(2:Nat)+(1:Nat)) (.int .i8 sc)) (by first|exact cO rfl|exact Pg|exact dV Pg rfl|exact fi Pg rfl|exact dm Pg)] (by kernel_rfl)).cast (by rfl) (by rfl)
theorem GZ (cs outs:List D) (Pg:∀c∈cs,c.clean=true) (sc f:Int) (m k:Nat) (hm:m≤64) (PG:cs.length=m*2) (hk:k<m) (b:Int) (hb:cs[k*2+1]? =some (.int .i8 b)) (he:(b==f)=false):ak Tryz.prog (aC Tryz.f47 2) ⟨[1,4,6,12,67,68],[3,1000004],[]⟩ 6 ((uu)::(.int .i8 sc)::(uu)::(uu)::(.aq (.tok 3 1) 2 outs)::(uu)::(.bP 4 2 m)::(un 5++(.int .i8 f)::(un 54++(.int .i64 (↑m:Int))::(.int .i64 (↑k:Int))::(un 32)))) [.dead,.dead,.dead,.bg 1 2,.box cs,.dead] .norm ((uu)::(.int .i8 sc)::(uu)::(uu)::(.aq (.tok 3 1) 2 outs)::(uu)::(.bP 4 2 m)::(un 5++(.int .i8 f)::(un 54++(.int .i64 (↑m:Int))::(.int .i64 (W3.i64.wrap ((↑k:Int)+1)))::(un 32)))) ([.dead,.dead,.dead,.bg 1 2,.box (VY D.aG cs),.dead]):=by
 exact (ak.ao (sp:=⟨[1,4,6,12,67,68],[3,1000004],[]⟩) (n0:=6) (ex:=Ex.norm) (t':=((uu)::(.int .i8 sc)::(uu)::(uu)::(.aq (.tok 3 1) 2 outs)::(uu)::(.bP 4 2 m)::(un 5++(.int .i8 f)::(un 54++(.int .i64 (↑m:Int))::(.int .i64 (W3.i64.wrap ((↑k:Int)+1)))::(un 32))))) (s':= [.dead,.dead,.dead,.bg 1 2,.box (VY D.aG cs),.dead]) mixed [tC (by ((try simp only [Vu,Vx,Vy,Vv,bm] at*);(try unfold bn at*);omega):(decide ((↑k:Int)<(↑m:Int)))=true),.dM (decide (0≤(↑k:Int)∧(↑k:Int)<(↑m:Int))) true (by ((try simp only [Vu,Vx,Vy,Vv,bm] at*);(try unfold bn at*);omega)),.get _ _ _ hb,tC he,.cl cs (by first|exact cO rfl|exact Pg|exact dV Pg rfl|exact fi Pg rfl|exact dm Pg)] (by kernel_rfl)).cast (by rfl) (by rfl)
theorem eh {l:List Mv} {k:Nat} (h:k<l.length):(cz l)[k]? =some (.agg [.int .i8 l[k].1,.int .i8 l[k].2]):=by simp [cz,h]
theorem lk (l:List Mv):(cz l).length=l.length:=by simp [cz]
theorem ti {k:Nat} (h:k≤1000):W3.i64.wrap ((k:Int)+1)=((k+1:Nat):Int):=by rw [aY];omega
abbrev KK (l:List Mv) (k:Nat):List D:= [.undef,.undef,.undef,.bA 0,.undef,.undef,.undef,.aq .no 2 (cz l),.int .i64 (l.length:Int),.int .i64 (k:Int),.undef,.undef,.undef,.undef,.undef,.undef,.undef,.undef,.undef,.undef,.undef,.undef,.undef,.undef,.undef,.undef,.undef,.undef,.undef,.undef,.undef,.undef,.undef,.undef,.undef,.undef]
abbrev Nk:List D:= [.undef,.undef,.bool false,.undef,.undef,.undef,.undef,.undef,.undef,.undef,.undef,.undef,.undef,.undef,.undef,.undef,.undef,.undef,.undef,.undef,.undef,.undef,.undef,.undef,.undef,.undef,.undef,.undef,.undef,.undef,.undef,.undef,.undef,.undef,.undef,.undef]
abbrev Nl:List D:= [.undef,.undef,.undef,.undef,.undef,.undef,.undef,.undef,.undef,.undef,.undef,.undef,.undef,.undef,.undef,.undef,.undef,.undef,.undef,.undef,.undef,.undef,.undef,.undef,.undef,.undef,.undef,.undef,.undef,.undef,.undef,.undef,.undef,.undef,.undef,.undef]
theorem D3 (l:List Mv) (Pe:l.length≤64):∀(n k:Nat) (seen:List Int),k+n=l.length→lY seen (l.drop k)=true→
  aA Tryz.prog (aC Tryz.f96 0) 1 (KK l k) [.mp .i8 (jx seen)] (.exit 0) Nl [.dead]
 |0,k,seen,hk,_=>aA.last (Io (cz l) _ _ _ (by omega)) (fun h=>by cases h)
 |n+1,k,seen,hk,h=>by
  have Pd:k<l.length:=by omega
  rw [VT Pd,lY] at h
  simp only [VG,Wn] at h
  obtain ⟨h1,h2,h3,h4⟩:=h
  have:=Ha (cz l) l.length k (jx seen) Pd l[k].1 l[k].2 (eh Pd) Pe (by rw [iJ,if_neg (by rw [h1];simp)]) h2 h3
  rw [ti (by omega)] at this
  exact aA.bZ this (D3 l Pe n (k+1) (l[k].1::seen) (by omega) h4)
theorem Hb (l:List Mv) (Pe:l.length≤64):∀(n k:Nat) (seen:List Int),k+n=l.length→lY seen (l.drop k)=false→
  aA Tryz.prog (aC Tryz.f96 0) 1 (KK l k) [.mp .i8 (jx seen)] .ret Nk [.dead]
 |0,k,seen,hk,h=>by
  obtain rfl:k=l.length:=by omega
  rw [Wl] at h
  cases h
 |n+1,k,seen,hk,h=>by
  have Pd:k<l.length:=by omega
  rw [VT Pd,lY] at h
  cases h1:seen.contains l[k].1 with
  |true=>exact aA.last (Ip (cz l) l.length k (jx seen) Pd l[k].1 l[k].2 (eh Pd) Pe (by rw [iJ,if_pos h1])) (fun h=>by cases h)
  |false=>
   have hl:dC (jx seen) l[k].1=none:=by rw [iJ,if_neg (by rw [h1];simp)]
   cases h2:fO l[k].1 with
   |false=>exact aA.last (LM (cz l) l.length k (jx seen) Pd l[k].1 l[k].2 (eh Pd) Pe hl h2) (fun h=>by cases h)
   |true=>
    cases h3:fO l[k].2 with
    |false=>exact aA.last (LL (cz l) l.length k (jx seen) Pd l[k].1 l[k].2 (eh Pd) Pe hl h2 h3) (fun h=>by cases h)
    |true=>
     have:=Ha (cz l) l.length k (jx seen) Pd l[k].1 l[k].2 (eh Pd) Pe hl h2 h3
     rw [ti (by omega)] at this
     exact aA.bZ this (Hb l Pe n (k+1) (l[k].1::seen) (by omega) (by rw [h1,h2,h3] at h;exact h))
abbrev Gy (l:List Mv):List D:= [.undef,.undef,.undef,.bA 0,.undef,.undef,.undef,.aq .no 2 (cz l),.int .i64 ((cz l).length:Int),.int .i64 0,.undef,.undef,.undef,.undef,.undef,.undef,.undef,.undef,.undef,.undef,.undef,.undef,.undef,.undef,.undef,.undef,.undef,.undef,.undef,.undef,.undef,.undef,.undef,.undef,.undef,.undef]
theorem Ag (l:List Mv):Gy l=KK l 0:=by simp only [Gy,KK,lk];rfl
theorem Gx (l:List Mv) (Pe:l.length≤64) (h:lY [] l=true):aI Tryz.prog 1 (.loop (aC Tryz.f96 0)) (Gy l) [.mp .i8 []] (.exit 0) Nl [.dead]:=by
 rw [Ag]
 exact aI.bf (VF _) (D3 l Pe l.length 0 [] (by omega) h)
theorem Im (l:List Mv) (Pe:l.length≤64) (h:lY [] l=false):aI Tryz.prog 1 (.loop (aC Tryz.f96 0)) (Gy l) [.mp .i8 []] .ret Nk [.dead]:=by
 rw [Ag]
 exact aI.bf (VF _) (Hb l Pe l.length 0 [] (by omega) h)
abbrev KL (l:List Mv) (sc:Int) (k:Nat):List D:= [.aq .no 2 (cz l),.int .i8 sc,.undef,.undef,.undef,.undef,.undef,.aq .no 2 (cz l),.int .i64 (l.length:Int),.int .i64 (k:Int),.undef,.undef,.undef,.undef,.undef,.undef,.undef,.undef,.undef,.undef,.undef,.undef,.undef,.undef,.undef,.undef,.undef,.undef,.undef,.undef]
abbrev Nn (l:List Mv) (sc:Int):List D:= [.aq .no 2 (cz l),.int .i8 sc,.undef,.undef,.undef,.undef,.undef,.undef,.undef,.undef,.undef,.undef,.undef,.undef,.undef,.undef,.undef,.undef,.undef,.undef,.undef,.undef,.undef,.undef,.undef,.undef,.undef,.undef,.undef,.undef]
abbrev Nm:List D:= [.undef,.undef,.undef,.undef,.bool false,.undef,.undef,.undef,.undef,.undef,.undef,.undef,.undef,.undef,.undef,.undef,.undef,.undef,.undef,.undef,.undef,.undef,.undef,.undef,.undef,.undef,.undef,.undef,.undef,.undef]
theorem D7 (l:List Mv) (Pe:l.length≤64) (sc:Int):∀(n k:Nat),k+n=l.length→ofM sc (l.drop k)=true→
  aA Tryz.prog (aC Tryz.f65 0) 0 (KL l sc k) [] (.exit 0) (Nn l sc) []
 |0,k,hk,_=>aA.last (It (cz l) _ _ _ (by omega)) (fun h=>by cases h)
 |n+1,k,hk,h=>by
  have Pd:k<l.length:=by omega
  rw [VT Pd,ofM,List.all_cons] at h
  simp only [VG,Wn] at h
  have:=Hc (cz l) l.length k sc Pd l[k].1 l[k].2 (eh Pd) Pe h.1.1 h.1.2
  rw [ti (by omega)] at this
  exact aA.bZ this (D7 l Pe sc n (k+1) (by omega) h.2)
theorem Hd (l:List Mv) (Pe:l.length≤64) (sc:Int):∀(n k:Nat),k+n=l.length→ofM sc (l.drop k)=false→
  aA Tryz.prog (aC Tryz.f65 0) 0 (KL l sc k) [] .ret Nm []
 |0,k,hk,h=>by
  obtain rfl:k=l.length:=by omega
  rw [Wl] at h
  cases h
 |n+1,k,hk,h=>by
  have Pd:k<l.length:=by omega
  rw [VT Pd,ofM,List.all_cons] at h
  cases h1:(l[k].1==sc) with
  |true=>exact aA.last (LP (cz l) l.length k sc Pd l[k].1 l[k].2 (eh Pd) Pe h1) (fun h=>by cases h)
  |false=>
   cases h2:(l[k].2==sc) with
   |true=>exact aA.last (LO (cz l) l.length k sc Pd l[k].1 l[k].2 (eh Pd) Pe h1 h2) (fun h=>by cases h)
   |false=>
    have:=Hc (cz l) l.length k sc Pd l[k].1 l[k].2 (eh Pd) Pe h1 h2
    rw [ti (by omega)] at this
    exact aA.bZ this (Hd l Pe sc n (k+1) (by omega) (by rw [h1,h2] at h;exact h))
abbrev GA (l:List Mv) (sc:Int):List D:= [.aq .no 2 (cz l),.int .i8 sc,.undef,.undef,.undef,.undef,.undef,.aq .no 2 (cz l),.int .i64 ((cz l).length:Int),.int .i64 0,.undef,.undef,.undef,.undef,.undef,.undef,.undef,.undef,.undef,.undef,.undef,.undef,.undef,.undef,.undef,.undef,.undef,.undef,.undef,.undef]
theorem Aj (l:List Mv) (sc:Int):GA l sc=KL l sc 0:=by simp only [GA,KL,lk];rfl
theorem Ai (l:List Mv) (Pe:l.length≤64) (sc:Int) (h:ofM sc l=true):aI Tryz.prog 0 (.loop (aC Tryz.f65 0)) (GA l sc) [] (.exit 0) (Nn l sc) []:=by
 rw [Aj]
 exact aI.bf (VF _) (D7 l Pe sc l.length 0 (by omega) h)
theorem Ir (l:List Mv) (Pe:l.length≤64) (sc:Int) (h:ofM sc l=false):aI Tryz.prog 0 (.loop (aC Tryz.f65 0)) (GA l sc) [] .ret Nm []:=by
 rw [Aj]
 exact aI.bf (VF _) (Hd l Pe sc l.length 0 (by omega) h)
theorem oQ (a:Int):∀l:List Int,eE l.reverse a=eE l a
 | []=>rfl
 |b::l=>by rw [List.reverse_cons,wI,oQ a l,eE,eE,eE];omega
abbrev M3 (l:List Mv) (k:Nat):List D:= [.bP 4 2 l.length,.undef,.undef,.undef,.bA 5,.undef,.undef,.undef,.undef,.undef,.undef,.bP 4 2 l.length,.int .i64 (l.length:Int),.int .i64 (k:Int),.undef,.undef,.undef,.undef,.undef,.undef,.undef,.undef,.undef,.undef,.undef,.undef,.undef,.undef,.undef,.undef,.undef,.undef,.undef,.undef,.undef,.undef,.undef,.undef,.undef,.undef,.undef,.undef,.undef]
abbrev M4 (l:List Mv):List D:= [.bP 4 2 l.length,.undef,.undef,.undef,.bA 5,.undef,.undef,.undef,.undef,.undef,.undef,.undef,.undef,.undef,.undef,.undef,.undef,.undef,.undef,.undef,.undef,.undef,.undef,.undef,.undef,.undef,.undef,.undef,.undef,.undef,.undef,.undef,.undef,.undef,.undef,.undef,.undef,.undef,.undef,.undef,.undef,.undef,.undef]
abbrev JE (l:List Mv) (q:List Int):List Ob:= [.dead,.dead,.dead,.bg 0 2,.box (bT l),.mp .i8 (jk q)]
theorem M5 (l:List Mv) (Pe:l.length≤64):∀(n k:Nat) (q:List Int),k+n=l.length→q.length≤k→
  aA Tryz.prog (aC Tryz.f66 0) 6 (M3 l k) (JE l q) (.exit 0) (M4 l) (JE l (((l.drop k).map Prod.snd).reverse++q))
 |0,k,q,hk,hq=>by
  obtain rfl:k=l.length:=by omega
  have:=FQ (bT l) (aZ l) (jk q) l.length l.length Pe (ct l) (VF _)
  rw [aW] at this
  rw [Wl]
  exact aA.last this (fun h=>by cases h)
 |n+1,k,q,hk,hq=>by
  have Pd:k<l.length:=by omega
  have ih:=M5 l Pe n (k+1) (l[k].2::q) (by omega) (by rw [Vx];omega)
  rw [VT Pd,List.map_cons,List.reverse_cons,V7]
  have hle:=AD l[k].2 q
  by_cases h0:eE q l[k].2=0
  ·have:=FO (bT l) (aZ l) (jk q) l.length k Pe (ct l) Pd l[k].1 l[k].2 (iv Pd) (by rw [iB,wJ,if_pos h0])
   rw [ti (by omega),aW] at this
   have e:jk (l[k].2::q)=eH (jk q) l[k].2 (.int .i64 1):=by rw [jk,eE,if_pos rfl,h0];rfl
   rw [← e] at this
   exact aA.bZ this ih
  ·have:=FN (bT l) (aZ l) (jk q) l.length k Pe (ct l) Pd l[k].1 l[k].2 (iv Pd) (eE q l[k].2) (by rw [iB,wJ,if_neg h0])
   rw [ti (by omega),aW] at this
   have e:jk (l[k].2::q)=eH (jk q) l[k].2 (.int .i64 (W3.i64.wrap ((eE q l[k].2:Int)+1))):=by rw [jk,eE,if_pos rfl,ti (by omega),Nat.add_comm]
   rw [← e] at this
   exact aA.bZ this ih
abbrev KB (l:List Mv) (k:Nat):List D:= [.undef,.undef,.undef,.undef,.bA 5,.undef,.undef,.undef,.undef,.undef,.undef,.undef,.undef,.undef,.undef,.undef,.undef,.undef,.undef,.undef,.undef,.undef,.undef,.bP 4 2 l.length,.int .i64 (l.length:Int),.int .i64 (k:Int),.undef,.undef,.undef,.undef,.undef,.undef,.undef,.undef,.undef,.undef,.undef,.undef,.undef,.undef,.undef,.undef,.undef]
abbrev MX (k:Nat):List D:= [.undef,.undef,.int .i64 (k:Int),.bool true,.undef,.undef,.undef,.undef,.undef,.undef,.undef,.undef,.undef,.undef,.undef,.undef,.undef,.undef,.undef,.undef,.undef,.undef,.undef,.undef,.undef,.undef,.undef,.undef,.undef,.undef,.undef,.undef,.undef,.undef,.undef,.undef,.undef,.undef,.undef,.undef,.undef,.undef,.undef]
abbrev MY:List D:= [.undef,.undef,.undef,.undef,.undef,.undef,.undef,.undef,.undef,.undef,.undef,.undef,.undef,.undef,.undef,.undef,.undef,.undef,.undef,.undef,.undef,.undef,.undef,.undef,.undef,.undef,.undef,.undef,.undef,.undef,.undef,.undef,.undef,.undef,.undef,.undef,.undef,.undef,.undef,.undef,.undef,.undef,.undef]
abbrev KC (l:List Mv):List Ob:= [.dead,.dead,.dead,.bg 0 2,.box (bT l),.dead]
abbrev tQ (l:List Mv):List Int:=(l.map Prod.snd).reverse
theorem Lx (l:List Mv) (Pe:l.length≤64) (Px:∀p∈l,p.1≠p.2):∀(n k:Nat),k+n=l.length→
  match dU l (l.drop k) k with
  |some j=>aA Tryz.prog (aC Tryz.f66 1) 6 (KB l k) (JE l (tQ l)) .ret (MX j) (KC l)
  |none=>aA Tryz.prog (aC Tryz.f66 1) 6 (KB l k) (JE l (tQ l)) (.exit 2) MY (KC l)
 |0,k,hk=>by
  obtain rfl:k=l.length:=by omega
  rw [Wl]
  have:=FM (bT l) (aZ l) (jk (tQ l)) l.length l.length Pe (ct l) (VF _)
  rw [aW] at this
  exact aA.last this (fun h=>by cases h)
 |n+1,k,hk=>by
  have Pd:k<l.length:=by omega
  have ih:=Lx l Pe Px n (k+1) (by omega)
  rw [VT Pd,dU]
  have hn:(l[k].1==l[k].2)=false:=by simpa using Px l[k] (Wr Pd)
  by_cases h0:eE (l.map Prod.snd) l[k].1=0
  ·rw [if_pos h0]
   have:=FL (bT l) (aZ l) (jk (tQ l)) l.length k Pe (ct l) Pd l[k].1 l[k].2 (iv Pd) hn (by rw [iB,wJ,oQ,if_pos h0])
   rw [aW] at this
   exact aA.last this (fun h=>by cases h)
  ·rw [if_neg h0]
   have:=H3 (bT l) (aZ l) (jk (tQ l)) l.length k Pe (ct l) Pd l[k].1 l[k].2 (iv Pd) hn (eE (l.map Prod.snd) l[k].1) (by rw [iB,wJ,oQ,if_neg h0]) (by rw [beq_eq_false_iff_ne];omega)
   rw [ti (by omega),aW] at this
   revert ih
   cases dU l (l.drop (k+1)) (k+1) with
   |some j=>exact fun ih=>aA.bZ this ih
   |none=>exact fun ih=>aA.bZ this ih
theorem JF (l:List Mv) (Pe:l.length≤64):aI Tryz.prog 6 (.loop (aC Tryz.f66 0)) (M3 l 0) [.dead,.dead,.dead,.bg 0 2,.box (VY D.aG (bT l)),.mp .i8 []] (.exit 0) (M4 l) (JE l (tQ l)):=by
 have:=M5 l Pe l.length 0 [] (by omega) (VF _)
 rw [WH,Wd] at this
 rw [aW]
 exact aI.bf (VF _) this
theorem Lv (l:List Mv) (Pe:l.length≤64) (Px:∀p∈l,p.1≠p.2) (j:Nat) (hj:dU l l 0=some j):aI Tryz.prog 6 (.loop (aC Tryz.f66 1)) (KB l 0) [.dead,.dead,.dead,.bg 0 2,.box (VY D.aG (bT l)),.mp .i8 (jk (tQ l))] .ret (MX j) (KC l):=by
 have:=Lx l Pe Px l.length 0 (by omega)
 rw [WH,hj] at this
 rw [aW]
 exact aI.bf (VF _) this
theorem Lw (l:List Mv) (Pe:l.length≤64) (Px:∀p∈l,p.1≠p.2) (hj:dU l l 0=none):aI Tryz.prog 6 (.loop (aC Tryz.f66 1)) (KB l 0) [.dead,.dead,.dead,.bg 0 2,.box (VY D.aG (bT l)),.mp .i8 (jk (tQ l))] (.exit 2) MY (KC l):=by
 have:=Lx l Pe Px l.length 0 (by omega)
 rw [WH,hj] at this
 rw [aW]
 exact aI.bf (VF _) this
theorem yG (l:List Mv) (Pe:l.length≤64) (h:lY [] l=true):aJ Tryz.prog 96 ([.aq .no 2 (cz l)]) (.bool true):=by
 have c0:= @Gx l Pe h
 exact (Nb (d:= .bool true) [.head ⟨[3,7,8,9],[0],[]⟩ _ _ _ _ _ _ _ c0] (by kernel_rfl)).to (by simp [wk,ay,aB, *])
theorem yH (l:List Mv) (Pe:l.length≤64) (h:lY [] l=false):aJ Tryz.prog 96 ([.aq .no 2 (cz l)]) (.bool false):=by
 have c0:= @Im l Pe h
 exact (Nb (d:= .bool false) [.head ⟨[3,7,8,9],[0],[]⟩ _ _ _ _ _ _ _ c0] (by kernel_rfl)).to (by simp [wk,ay,aB, *])
theorem Ec (l:List Mv) (Pe:l.length≤64) (sc:Int) (h:ofM sc l=false):aJ Tryz.prog 65 ([.aq .no 2 (cz l),.int .i8 sc]) (.bool false):=by
 have c0:= @Ir l Pe sc h
 exact (LH (d:= .bool false) [.head ⟨[0,1,7,8,9],[],[]⟩ _ _ _ _ _ _ _ c0] (by kernel_rfl)).to (by simp [wk,ay,aB, *])
theorem Eb (l:List Mv) (Pe:l.length≤64) (sc:Int) (h:ofM sc l=true) (h2:fO sc=false):aJ Tryz.prog 65 ([.aq .no 2 (cz l),.int .i8 sc]) (.bool false):=by
 have c0:= @Ai l Pe sc h
 have c1:= @iM sc
 exact (LH (d:= .bool false) [.head ⟨[0,1,7,8,9],[],[]⟩ _ _ _ _ _ _ _ c0,.ret _ _ _ c1,tC (eT h2),tC (eT h2),tC h2] (by kernel_rfl)).to (by simp [wk,ay,aB, *])
theorem Ea (l:List Mv) (Pe:l.length≤64) (sc:Int) (h:ofM sc l=true) (h2:fO sc=true) (q:Bool) (hn:aJ Tryz.prog 96 [.aq .no 2 (cz l)] (.bool q)):aJ Tryz.prog 65 ([.aq .no 2 (cz l),.int .i8 sc]) (.bool q):=by
 have c0:= @Ai l Pe sc h
 have c1:= @iM sc
 exact (LH (d:= .bool q) [.head ⟨[0,1,7,8,9],[],[]⟩ _ _ _ _ _ _ _ c0,.ret _ _ _ c1,tC (eT h2),tC (eT h2),.ret _ _ _ hn,tC h2] (by kernel_rfl)).to (by simp [wk,ay,aB, *])
theorem vO (l:List Mv) (Pe:l.length≤64) (Px:∀p∈l,p.1≠p.2) (j:Nat) (hj:dU l l 0=some j):bW Tryz.prog 66 ([.bP 4 2 l.length]) ([.dead,.dead,.dead,.bg 0 2,.box (bT l)]) (.aQ [.int .i64 (j:Int),.bool true]) ([.dead,.dead,.dead,.bg 0 2,.box (bT l),.dead]):=by
 have c0:= @JF l Pe
 have c1:= @Lv l Pe Px _ hj
 exact (bW.ao (bO:= [3,4]) (d:= .aQ [.int .i64 (↑j:Int),.bool true]) (s':= [.dead,.dead,.dead,.bg 0 2,.box (bT l),.dead]) mixed [.head ⟨[0,4,11,12,13],[3,5,1000004],[]⟩ _ _ _ _ _ _ _ c0,.cl (bT l) (by first|exact cO rfl|exact aZ _),.head ⟨[4,23,24,25],[3,5,1000004],[]⟩ _ _ _ _ _ _ _ c1,.cl (bT l) (by first|exact cO rfl|exact aZ _)] (by kernel_rfl)).cast (by simp [wk,ay,aB, *]) (by simp only [aW])
theorem Dl (l:List Mv) (Pe:l.length≤64) (Px:∀p∈l,p.1≠p.2) (hj:dU l l 0=none):bW Tryz.prog 66 ([.bP 4 2 l.length]) ([.dead,.dead,.dead,.bg 0 2,.box (bT l)]) (.aQ [.int .i64 0,.bool false]) ([.dead,.dead,.dead,.bg 0 2,.box (bT l),.dead]):=by
 have c0:= @JF l Pe
 have c1:= @Lw l Pe Px hj
 exact (bW.ao (bO:= [3,4]) (d:= .aQ [.int .i64 0,.bool false]) (s':= [.dead,.dead,.dead,.bg 0 2,.box (bT l),.dead]) mixed [.head ⟨[0,4,11,12,13],[3,5,1000004],[]⟩ _ _ _ _ _ _ _ c0,.cl (bT l) (by first|exact cO rfl|exact aZ _),.head ⟨[4,23,24,25],[3,5,1000004],[]⟩ _ _ _ _ _ _ _ c1,.cl (bT l) (by first|exact cO rfl|exact aZ _)] (by kernel_rfl)).cast (by simp [wk,ay,aB, *]) (by simp only [aW])
end Go.Proofs.YtkpneibifdoecaaGreat
