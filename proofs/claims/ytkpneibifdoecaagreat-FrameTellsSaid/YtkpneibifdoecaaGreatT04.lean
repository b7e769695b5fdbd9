import Derived.LoopN
import Derived.LoopNIn
import Derived.Scope
import Derived.RangeFuncRecord
import Derived.Test.YtkpneibifdoecaaGreatT02
import Derived.Test.YtkpneibifdoecaaGreatT03
open List renaming length_append→Vu,length_set→Vv,getD_eq_getElem?_getD→VJ,getElem?_eq_none→VO,getElem?_map→VW,length_singleton→V0,all_eq_true→V3,mem_of_getElem? →V5,getElem?_cons_succ→Wp,mem_cons→Wq,getElem?_cons_zero→Wt
open Option.some renaming inj→VA,injEq→VI
open Nat renaming le_refl→VF,lt_or_ge→VS,beq_eq→VZ,zero_add→V9,ble_eq→Wy,blt_eq→WC,le_trans→WG,ble→WI
open Bool renaming and_eq_true→VG,not_eq_true'→Wn,or_eq_true→WL
open Option renaming map_eq_some_iff→VU,bind_some→WO
open Go.Sem renaming run_bind→VV,run_pure→V1
open Prod.mk renaming injEq→WB
/- Contracts and plain laws that a statement's proof leans on (texts merged:EvQ,EvP). -/
set_option linter.unusedVariables false
set_option linter.unusedSimpArgs false
namespace Go.Ev
open Go Go.RowKit
theorem iw {i:Nat} :∀ {l:List Nat},gn i l=true↔i∈l
 | []=>by simp [gn]
 |a::r=>by
  unfold gn
  split
  ·rename_i h;rw [VZ] at h;subst h;simp
  ·rename_i h
   rw [iw]
   have:a≠i:=fun e=>by subst e;simp at h
   simp [Ne.symm this]
theorem MM.lI {M M':MM} (h:M.Le M') (n:Nat):(M.cut n).Le (M'.cut n):=by
 refine ⟨h.cell,fun i b k=> ?_,fun i v b k=> ?_,h.dE⟩
 ·simp only [MM.cut] at k ⊢
  split at k
  ·rename_i q;rw [if_pos q];exact h.box _ _ k
  ·cases k
 ·simp only [MM.cut] at k ⊢
  split at k
  ·rename_i q;rw [if_pos q];exact h.br _ _ _ k
  ·cases k
theorem MM.tc {M:MM} {n:Nat} :((M.cut n).cut n)=M.cut n:=by
 unfold MM.cut
 congr 1
 ·funext i;by_cases h:i<n<;>simp [h]
 ·funext i v;by_cases h:i<n<;>simp [h]
theorem MM.Iz {M:MM} {n:Nat} (h:M.upto n):M.Le (M.cut n):=by
 refine ⟨fun _ _ _ h=>h,fun i b k=> ?_,fun i v b k=> ?_,fun _ h=>h⟩
 ·simp only [MM.cut]
  split
  ·exact k
  ·rw [h.1 i (by omega)] at k;cases k
 ·simp only [MM.cut]
  split
  ·exact k
  ·rw [h.2 i v (by omega)] at k;cases k
theorem gK (n:Nat):∀l:List D,je n l=l.all (kG n)
 | []=>by simp [je]
 |d::r=>by simp [je,gK n r]
theorem bz.cut {M:MM} {d:D} {v:Value} (h:bz M d v):∀ {n:Nat},kG n d=true→bz (M.cut n) d v:=by
 induction h with
 |undef v=>exact fun _=> .undef v
 |int k n=>exact fun _=> .int k n
 |bool b=>exact fun _=> .bool b
 |str s=>exact fun _=> .str s
 |eW=>exact fun _=> .eW
 |ptr q h=>intro n c;simp only [kG,WC] at c;exact .ptr q (by simp only [MM.cut,c,if_true];exact h)
 |cN q vs hx hc hr ih=>intro n c;exact .cN q vs hx hc hr
 |bA h=>intro n c;simp only [kG,WC] at c;exact .bA (by simp only [MM.cut,c,if_true];exact h)
 |iD h=>intro n c;simp only [kG,WC] at c;exact .iD (by simp only [MM.cut,c,if_true];exact h)
 |bP h hh hc=>intro n c;simp only [kG,WC] at c;exact .bP (by simp only [MM.cut,c,if_true];exact h) (by simp only [MM.cut,c,if_true];exact hh) hc
 |sub h hc hp ho=>intro n c;simp only [kG,WC] at c;exact .sub (by simp only [MM.cut,c,if_true];exact h) hc hp ho
 |aq b off vs hl Ph ha Po hc hr Pr ho ih=>
  intro n c
  refine .aq b off vs hl Ph ha Po hc hr Pr ?_
  rename_i M o _ _ _ _ _
  cases o with
  |tok t v=>simp only [kG,WC] at c;simp only [MM.kA,MM.cut,c,if_true];exact ho
  |no=>trivial
  |fresh k=>trivial
  |tight=>exact ho
 |bw=>exact fun _=> .bw
 |fn h1 h2 r1 r2 i1 i2=>
  intro n c
  rw [kG,gK,gK,VG,V3,V3] at c
  exact .fn h1 h2 (fun i d v a b=>i1 i d v a b (c.1 _ (V5 a))) (fun i d v a b=>i2 i d v a b (c.2 _ (V5 a)))
 |agg h r ih=>
  intro n c
  rw [kG,gK,V3] at c
  exact .agg h (fun i d v a b=>ih i d v a b (c _ (V5 a)))
 |aQ h r ih=>
  intro n c
  rw [kG,gK,V3] at c
  exact .aQ h (fun i d v a b=>ih i d v a b (c _ (V5 a)))
theorem l7 {s:List Ob} {size id:Nat} {d d':D} {o:Option Nat} {ob:Ob} (h:ou s size id d=some (d',o,ob)):
  (∃fl sz xs,d= .aq fl sz xs∧d'= .aq (.tok id 0) size xs∧ob= .bg 0 size∧(sz=size∨xs= [])∧((fl= .tight∧o=none)∨∃i v,fl= .tok i v∧o=some i∧s.getD i .dead= .bg v size))∨
  (∃i n cs,d= .bP i size n∧d'= .bP id size n∧o=some i∧s.getD i .dead= .box cs∧ob= .box (cs.map D.aG)):=by
 unfold ou at h
 split at h
 ·rename_i sz xs
  split at h
  ·rename_i hk
   simp only [VI,WB] at h
   obtain ⟨rfl,rfl,rfl⟩:=h
   simp only [mT,WL,VZ,List.isEmpty_iff] at hk
   exact .inl ⟨_,sz,xs,rfl,rfl,rfl,hk,.inl ⟨rfl,rfl⟩⟩
  ·cases h
 ·rename_i i v sz xs
  split at h
  ·rename_i v' P4 hs
   split at h
   ·rename_i hk
    simp only [VI,WB] at h
    obtain ⟨rfl,rfl,rfl⟩:=h
    simp only [mT,WL,VG,VZ,List.isEmpty_iff] at hk
    obtain ⟨rfl,rfl,hk⟩:=hk
    exact .inl ⟨_,sz,xs,rfl,rfl,rfl,hk,.inr ⟨i,v',rfl,rfl,hs⟩⟩
   ·cases h
  ·cases h
 ·rename_i i sz n
  split at h
  ·rename_i cs hs
   split at h
   ·rename_i hk
    rw [VZ] at hk
    subst hk
    simp only [VI,WB] at h
    obtain ⟨rfl,rfl,rfl⟩:=h
    exact .inr ⟨i,n,cs,rfl,rfl,rfl,hs,rfl⟩
   ·cases h
  ·cases h
 ·cases h
theorem qj {t:List D} {s:List Ob} :∀ {fs:List (Nat×Nat)} {id:Nat} {used:List (Option Nat)} {new:List Ob},wq t s fs id=some (used,new)→
  (used.length=fs.length∧new.length=fs.length)∧∀(j k size:Nat),fs[j]? =some (k,size)→∃d' o ob,ou s size (id+j) (fQ t s k)=some (d',o,ob)∧used[j]? =some o∧new[j]? =some ob
 | [],id,used,new,h=>by
  simp only [wq,VI,WB] at h
  obtain ⟨rfl,rfl⟩:=h
  exact ⟨⟨rfl,rfl⟩,fun j k size h=>by simp at h⟩
 |(k,size)::r,id,used,new,h=>by
  simp only [wq] at h
  split at h
  ·rename_i d' o ob l Ic h1 h2
   simp only [VI,WB] at h
   obtain ⟨rfl,rfl⟩:=h
   obtain ⟨k1,k2⟩:=qj h2
   refine ⟨by simp [k1.1,k1.2],fun j k' Tu hj=> ?_⟩
   cases j with
   |zero=>
    simp only [Wt,VI,WB] at hj
    obtain ⟨rfl,rfl⟩:=hj
    exact ⟨d',o,ob,h1,rfl,rfl⟩
   |succ j=>
    simp only [Wp] at hj
    obtain ⟨d2,o2,ob2,q1,q2,q3⟩:=k2 j k' Tu hj
    exact ⟨d2,o2,ob2,by rw [show id+(j+1)=id+1+j by omega];exact q1,by simpa using q2,by simpa using q3⟩
  ·cases h
theorem md {i:Nat} :∀ {fs:List (Nat×Nat)} {id QR size:Nat},findF i fs id=some (QR,size)→∃j,QR=id+j∧fs[j]? =some (i,size)
 | [],id,QR,size,h=>by simp [findF] at h
 |(k,sz)::r,id,QR,size,h=>by
  simp only [findF] at h
  split at h
  ·rename_i hk
   rw [VZ] at hk
   simp only [VI,WB] at h
   obtain ⟨rfl,rfl⟩:=h
   exact ⟨0,rfl,by simp [hk]⟩
  ·obtain ⟨j,h1,h2⟩:=md h
   exact ⟨j+1,by omega,by simpa using h2⟩
theorem Cl {i:Nat} {fs:List (Nat×Nat)} {n0 id size:Nat} (h:Ez i fs n0=some (id,size)):i<dc∧findF i fs n0=some (id,size):=by
 unfold Ez at h
 split at h
 ·cases h
 ·rename_i hb
  refine ⟨?_,h⟩
  rcases VS i dc with q|q
  ·exact q
  ·rw [Nat.ble_eq_true_of_le q] at hb;cases hb
theorem Cm {i j:Nat} {fs:List (Nat×Nat)} {n0 id size:Nat} (h:Ay i j fs n0=some (id,size)):j<1000∧findF (dc+i*1000+j) fs n0=some (id,size):=by
 unfold Ay at h
 split at h
 ·rename_i hb
  exact ⟨by rw [WC] at hb;exact hb,h⟩
 ·cases h
theorem nz {sp:HS} {n0:Nat} {s:List Ob} :∀ {t:List D} {i:Nat} {t':List D},nA sp n0 s i t=some t'→
  t'.length=t.length∧∀k d d',t[k]? =some d→t'[k]? =some d'→CZ sp n0 s (i+k) d=some d'
 | [],i,t',h=>by
  simp only [nA,VI] at h
  subst h
  exact ⟨rfl,fun k d d' h=>by simp at h⟩
 |d::r,i,t',h=>by
  simp only [nA] at h
  split at h
  ·rename_i d1 l h1 h2
   obtain rfl:=VA h
   obtain ⟨k1,k2⟩:=nz h2
   refine ⟨by simp [k1],fun k d2 d3 a b=> ?_⟩
   cases k with
   |zero=>simp at a b;subst a b;exact h1
   |succ k=>
    simp at a b
    rw [show i+(k+1)=i+1+k by omega]
    exact k2 k d2 d3 a b
  ·cases h
theorem oT {sp:HS} {n0:Nat} {s:List Ob} {i:Nat} :∀ {cs:List D} {j:Nat} {PM:List D},mh sp n0 s i j cs=some PM→
  PM.length=cs.length∧∀(k:Nat) (d d':D),cs[k]? =some d→PM[k]? =some d'→(∃id size o ob,Ay i (j+k) sp.j7 n0=some (id,size)∧ou s size id d=some (d',o,ob))∨(kG n0 d=true∧d'=d)
 | [],j,PM,h=>by
  simp only [mh,VI] at h
  subst h
  exact ⟨rfl,fun k d d' h=>by simp at h⟩
 |a::r,j,PM,h=>by
  rw [mh] at h
  split at h
  ·rename_i d1 l h1 h2
   obtain rfl:=VA h
   obtain ⟨k1,k2⟩:=oT h2
   refine ⟨by simp [k1],fun k d d' p q=> ?_⟩
   cases k with
   |zero=>
    simp at p q
    subst p q
    split at h1
    ·rename_i id size hf
     split at h1
     ·rename_i d2 o hg
      obtain rfl:=VA h1
      exact .inl ⟨id,size,o.1,o.2,hf,hg⟩
     ·cases h1
    ·split at h1
     ·rename_i Qj
      exact .inr ⟨Qj,(VA h1).symm⟩
     ·cases h1
   |succ k=>
    simp at p q
    rw [show j+(k+1)=j+1+k by omega]
    exact k2 k d d' p q
  ·cases h
theorem vW {sp:HS} {n0:Nat} {s0:List Ob} {used:List (Option Nat)} {new:List Ob} :∀ {n i:Nat} {s s':List Ob},Bn sp n0 s0 used new n i s=some s'→
  ∃l,s'=l++new∧l.length=n∧∀k o,l[k]? =some o→∃o0,s[k]? =some o0∧KF sp n0 s0 used (i+k) o0=some o
 |0,i,s,s',h=>by
  simp only [Bn,VI] at h
  exact ⟨[],by simp [h],rfl,fun k o h=>by simp at h⟩
 |n+1,i,[],s',h=>by simp [Bn] at h
 |n+1,i,o::r,s',h=>by
  simp only [Bn] at h
  split at h
  ·rename_i o' l h1 h2
   obtain rfl:=VA h
   obtain ⟨l',rfl,k2,k3⟩:=vW h2
   refine ⟨o'::l',rfl,by simp [k2],fun k o2 hk=> ?_⟩
   cases k with
   |zero=>simp at hk;subst hk;exact ⟨o,rfl,h1⟩
   |succ k=>
    simp at hk
    obtain ⟨o0,q1,q2⟩:=k3 k o2 hk
    exact ⟨o0,by simpa using q1,by rw [show i+(k+1)=i+1+k by omega];exact q2⟩
  ·cases h
theorem lC {i:Nat} :∀ {l:List (Option Nat)},pQ i l=true↔some i∈l
 | []=>by simp [pQ]
 |none::r=>by simp [pQ,lC]
 |some a::r=>by
  unfold pQ
  split
  ·rename_i h;rw [VZ] at h;subst h;simp
  ·rename_i h
   rw [lC]
   have:a≠i:=fun e=>by subst e;simp at h
   simp [Ne.symm this]
def iI (i:Nat):List (Option Nat)→Nat→Option Nat
  | [],_=>none
  |none::r,id=>iI i r (id+1)
  |some a::r,id=>if a=i then some id else iI i r (id+1)
theorem ft {i:Nat} :∀ {l:List (Option Nat)} {id:Nat},some i∉l→iI i l id=none
 | [],id,_=>rfl
 |none::r,id,h=>by simp only [iI];exact ft (by simpa using h)
 |some a::r,id,h=>by
  simp only [Wq,VI,not_or] at h
  simp only [iI,if_neg (Ne.symm h.1)]
  exact ft h.2
theorem jO {i:Nat} :∀ {l:List (Option Nat)} {id j:Nat},qt l=true→l[j]? =some (some i)→iI i l id=some (id+j)
 | [],id,j,_,h=>by simp at h
 |none::r,id,j,hd,h=>by
  simp only [qt] at hd
  simp only [iI]
  cases j with
  |zero=>simp at h
  |succ j=>rw [show id+(j+1)=id+1+j by omega];exact jO hd (by simpa using h)
 |some a::r,id,j,hd,h=>by
  simp only [qt,VG,Wn] at hd
  simp only [iI]
  cases j with
  |zero=>simp at h;simp [h]
  |succ j=>
   have hm:some i∈r:=V5 (by simpa using h)
   have:a≠i:=fun e=>by subst e;rw [lC.2 hm] at hd;simp at hd
   rw [if_neg this,show id+(j+1)=id+1+j by omega]
   exact jO hd.2 (by simpa using h)
def oo (sp:HS) (t:List D) (s:List Ob):Prop:= ∀cs∈sW sp t s,∀c∈cs,c.clean=true
theorem kH {s:List Ob} {i:Nat} {cs:List D} (h:s.getD i .dead= .box cs):∀ {l:List Nat},gn (dc+i) l=true→cs∈l6 s l
 | [],h1=>by simp [gn] at h1
 |o::r,h1=>by
  rw [iw] at h1
  rcases Wq.1 h1 with e|e
  ·rw [l6,← e,show WI dc (dc+i)=true by rw [Wy];omega]
   simp only []
   rw [show dc+i - dc=i by omega,AF,h]
   simp
  ·rw [l6]
   split
   ·exact List.mem_append_right _ (kH h (iw.2 e))
   ·exact kH h (iw.2 e)
theorem ot {t:List D} {s:List Ob} {k size i sz n:Nat} {cs:List D} (hr:fQ t s k= .bP i sz n) (h:s.getD i .dead= .box cs):∀ {l:List (Nat×Nat)} {j:Nat},l[j]? =some (k,size)→cs∈sY t s l
 | [],j,h1=>by simp at h1
 |(k',z)::r,j,h1=>by
  rw [sY]
  cases j with
  |zero=>
   simp only [Wt,VI,WB] at h1
   obtain ⟨rfl,rfl⟩:=h1
   rw [hr]
   simp only [AF,h]
   simp
  |succ j=>exact List.mem_append_right _ (ot hr h (by simpa using h1))
theorem oq {t:List D} {i:Nat} {cs:List D} (h:t.getD i .undef= .agg cs):∀ {l:List Nat},gn (dc+i) l=true→cs∈sX t l
 | [],q=>by cases q
 |o::r,q=>by
  rw [sX]
  rcases Wq.1 (iw.1 q) with e|e
  ·rw [← e,show WI dc (dc+i)=true by rw [Wy];omega,show dc+i - dc=i by omega,h]
   simp
  ·exact List.mem_append_right _ (oq h (iw.2 e))
theorem m7 {sp:HS} {n0:Nat} {s:List Ob} {used:List (Option Nat)} {i:Nat} {o0 o:Ob} (h:KF sp n0 s used i o0=some o) (hd:o≠ .dead):some i∉used∧
  ((∃cs,o0= .box cs∧o= .box (cs.map D.aG)∧gn (dc+i) sp.Ic=true)∨(∃cs,o0= .box cs∧o= .box cs∧je n0 cs=true)∨(∃cs PM,o0= .box cs∧o= .box PM∧mh sp n0 s i 0 cs=some PM)∨
   (∃k t ps ag bd,o0= .lp k t ps ag bd∧o= .lp k t ps ag bd∧je n0 t=true)∨(o=o0∧(∀cs,o≠ .box cs)∧∀k t ps ag bd,o≠ .lp k t ps ag bd)):=by
 have nu:∀ {b:Bool},(b&& !pQ i used)=true→some i∉used:=fun {b} hk hm=>by
  simp only [VG,Wn] at hk
  rw [lC.2 hm] at hk
  simp at hk
 unfold KF at h
 split at h
 ·rename_i hk
  refine ⟨nu hk,?_⟩
  split at h
  ·rename_i cs
   simp only [VG] at hk
   exact .inl ⟨cs,rfl,(VA h).symm,hk.1⟩
  ·cases h
 ·split at h
  ·exact absurd (VA h).symm hd
  ·rename_i hk
   refine ⟨nu hk,?_⟩
   split at h
   ·rename_i cs
    split at h
    ·rename_i PM hc
     exact .inr (.inr (.inl ⟨cs,PM,rfl,(VA h).symm,hc⟩))
    ·cases h
   ·rename_i k t ps ag bd
    split at h
    ·rename_i Qj
     exact .inr (.inr (.inr (.inl ⟨k,t,ps,ag,bd,rfl,(VA h).symm,Qj⟩)))
    ·cases h
   ·rename_i h1 h2
    obtain rfl:=VA h
    exact .inr (.inr (.inr (.inr ⟨rfl,h1,h2⟩)))
theorem l5 {sp:HS} {n0:Nat} {t t':List D} {s s':List Ob} (h:lB sp n0 t s=some (t',s')) (PG:oo sp t s):
  (n0≤s'.length∧s'.length=n0+sp.j7.length)∧∀ {w0:de} {M:MM} {own:Nat→Option Nat} {w:World} {tmps:Array Value},n0≤s.length→bH w0 M own (bE s) w→M.upto s.length→bV M t tmps→
   ∃M' Pc,bH w0 M' Pc (bE s') w∧M'.upto s'.length∧(M.cut n0).Le M'∧bV M' t' tmps:=by
 unfold lB at h
 split at h
 ·rename_i used new hu
  split at h
  ·rename_i Sk
   split at h
   ·rename_i t1 s1 ht hs
    simp only [VI,WB] at h
    obtain ⟨rfl,rfl⟩:=h
    obtain ⟨l,rfl,hl,SN⟩:=vW hs
    obtain ⟨ht1,Ru⟩:=nz ht
    obtain ⟨⟨Vk,hu2⟩,hgrow⟩:=qj hu
    have hlen:(l++new).length=n0+sp.j7.length:=by simp [hl,hu2]
    refine ⟨⟨by omega,hlen⟩,?_⟩
    intro w0 M own w tmps hn hw P6 Pm
    let rv:Nat→Value:=fun k=>match WI dc k with
     |false=>tmps.getD k undef
     |true=>match M.box ((k - dc) / 1000) with
      |some b=>(w.cell? ⟨b,(k - dc)%1000,none⟩).getD undef
      |none=>undef
    have SR:∀k,fQ t s k≠ .undef→bz M (fQ t s k) (rv k):=by
     intro k Px
     cases hb:WI dc k with
     |false=>
      simp only [fQ,rv,hb]
      exact gz Pm k
     |true=>
      simp only [fQ,rv,hb] at Px ⊢
      split at Px
      ·rename_i cs Pg
       obtain ⟨b,vs,ty,kb⟩:=hw.box _ cs Pg
       have hc:∃d,cs[(k - dc)%1000]? =some d:=by
        cases e:cs[(k - dc)%1000]? with
        |none=>rw [VJ,e] at Px;exact absurd rfl Px
        |some d=>exact ⟨d,rfl⟩
       obtain ⟨d,hd⟩:=hc
       obtain ⟨u,h1,h2⟩:=jM kb.len kb.rep hd
       rw [kb.box,VJ,hd]
       simp only [World.cell?,kb.cq,h1]
       exact h2
      ·exact absurd rfl Px
    let bxN:Nat→Option Nat:=fun j=>match sp.j7[j]? with
     |some (k,_)=>(match fQ t s k with| .bP i _ _=>M.box i|_=>none)
     |none=>none
    let hdr:Nat→Nat→Option Value:=fun j v=>match sp.j7[j]? with
     |some (k,size)=>(match fQ t s k with| .bP _ _ _=>(if v=size then some (rv k) else none)|_=>(if v=0 then some (rv k) else none))
     |none=>none
    let M':MM:=⟨M.cell,fun i=>if i<n0 then M.box i else bxN (i - n0),fun i v=>if i<n0 then M.br i v else hdr (i - n0) v,M.dE⟩
    let ren:Nat→Option Nat:=fun i=>match iI i used n0 with|some k=>some k|none=>if i<n0 then some i else none
    let Pc:Nat→Option Nat:=fun b=>(own b).bind ren
    have hle:(M.cut n0).Le M':=by
     refine ⟨fun _ _ _ h=>h,fun i b k=> ?_,fun i v b k=> ?_,fun _ h=>h⟩
     ·simp only [MM.cut] at k
      split at k
      ·rename_i q;simp only [M',if_pos q];exact k
      ·cases k
     ·simp only [MM.cut] at k
      split at k
      ·rename_i q;simp only [M',if_pos q];exact k
      ·cases k
    have root:∀(j k size:Nat),sp.j7[j]? =some (k,size)→
      (∃fl sz xs a len cap o,fQ t s k= .aq fl sz xs∧rv k= .slice a len cap∧used[j]? =some o∧new[j]? =some (.bg 0 size)∧(sz=size∨xs= [])∧bz M (.aq fl sz xs) (.slice a len cap)∧((fl= .tight∧o=none)∨∃i v,fl= .tok i v∧o=some i∧s.getD i .dead= .bg v size))∨
      (∃i n cs b cap,fQ t s k= .bP i size n∧rv k= .slice (some ⟨b,0,none⟩) n cap∧used[j]? =some (some i)∧new[j]? =some (.box (cs.map D.aG))∧s.getD i .dead= .box cs∧M.box i=some b∧M.br i size=some (.slice (some ⟨b,0,none⟩) n cap)∧n≤cap∧∀c∈cs,c.clean=true):=by
     intro j k size hj
     obtain ⟨d',o,ob,h1,h2,h3⟩:=hgrow j k size hj
     rcases l7 h1 with ⟨fl,sz,xs,q1,q2,rfl,q3,q4⟩|⟨i,n,cs,q1,q2,rfl,q3,rfl⟩
     ·have hr:=SR k (by rw [q1];simp)
      rw [q1] at hr
      generalize hv:rv k=v at hr
      cases hr with
      |aq b off vs hl Ph ha Po hc hr Pr ho=>
       exact .inl ⟨fl,sz,xs,_,_,_,o,q1,rfl,h2,h3,q3,.aq b off vs hl Ph ha Po hc hr Pr ho,q4⟩
     ·have hr:=SR k (by rw [q1];simp)
      rw [q1] at hr
      generalize hv:rv k=v at hr
      cases hr with
      |bP hb hh hc=>
       exact .inr ⟨i,n,cs,_,_,q1,rfl,h2,h3,q3,hb,hh,hc,PG cs (List.mem_append_right _ (List.mem_append_left _ (ot q1 q3 hj)))⟩
    have newAt:∀ {i:Nat} {o:Ob},bE (l++new) i=o→o≠ .dead→(i<n0∧l[i]? =some o)∨(n0≤i∧∃k size,sp.j7[i - n0]? =some (k,size)∧new[i - n0]? =some o):=by
     intro i o hi Px
     unfold bE at hi
     rcases VS i l.length with Pd|hge
     ·rw [VJ,List.getElem?_append_left Pd] at hi
      rw [List.getElem?_eq_getElem Pd] at hi ⊢
      exact .inl ⟨by omega,by simpa using hi⟩
     ·rw [VJ,List.getElem?_append_right hge] at hi
      rw [hl] at hi hge
      cases e:new[i - n0]? with
      |none=>rw [e] at hi;exact absurd hi.symm Px
      |some x=>
       rw [e] at hi
       simp only [Option.getD_some] at hi
       subst hi
       have Pd:i - n0<sp.j7.length:=by
        rw [← hu2]
        rcases VS (i - n0) new.length with q|q
        ·exact q
        ·rw [VO q] at e;cases e
       exact .inr ⟨hge,sp.j7[i - n0].1,sp.j7[i - n0].2,by simp [Pd],rfl⟩
    have gq:∀ {i:Nat} {o0:Ob},s[i]? =some o0→bE s i=o0:=fun {i o0} h1=>by unfold bE;rw [VJ,h1];rfl
    have RO:∀ {j k size:Nat} {fl:jn} {sz:Nat} {xs:List D},sp.j7[j]? =some (k,size)→fQ t s k= .aq fl sz xs→bz M (.aq fl sz xs) (rv k)→(sz=size∨xs= [])→bz M' (.aq (.tok (n0+j) 0) size xs) (rv k):=by
     intro j k size fl sz xs hj q1 hr q3
     refine bz.resize (sz:=sz) ?_ q3
     generalize hv:rv k=v at hr
     cases hr with
     |aq b off vs RF Ph ha Po hc hr Pr ho=>
      refine .aq b off vs RF Ph ha Po hc hr Pr ?_
      simp only [MM.kA,M',if_neg (show ¬n0+j<n0 by omega),hdr,show n0+j - n0=j by omega,hj,q1,if_true,hv]
    have RK:∀ {j k size i n b cap:Nat},sp.j7[j]? =some (k,size)→fQ t s k= .bP i size n→rv k= .slice (some ⟨b,0,none⟩) n cap→M.box i=some b→n≤cap→bz M' (.bP (n0+j) size n) (rv k):=by
     intro j k size i n b cap hj q1 hv hb hc
     rw [hv]
     refine .bP (b:=b) ?_ ?_ hc
     ·simp only [M',if_neg (show ¬n0+j<n0 by omega),bxN,show n0+j - n0=j by omega,hj,q1];exact hb
     ·simp only [M',if_neg (show ¬n0+j<n0 by omega),hdr,show n0+j - n0=j by omega,hj,q1,if_true,hv]
    refine ⟨M',Pc,⟨hw.below,hw.cells,hw.gq,?_,?_,?_,?_,?_,hw.dE⟩,?_,hle,?_⟩
    ·intro b i k
     simp only [Pc] at k
     cases e:own b with
     |none=>rw [e] at k;cases k
     |some i'=>exact hw.owned b i' e
    ·
     intro i cs hi
     rcases newAt hi (by simp) with ⟨Pd,hli⟩|⟨hge,k,size,hj,PK⟩
     ·obtain ⟨o0,h1,h2⟩:=SN i _ hli
      rw [V9] at h2
      obtain ⟨hnu,PS⟩:=m7 h2 (by simp)
      have kept:∀ {Rg:List D},o0= .box Rg→cs.length=Rg.length→(∀(b:Nat) (vs:Array Value) (ty:TypeId),mP w0 M own i Rg w b vs ty→∀(j:Nat) (d:D) (v:Value),cs[j]? =some d→vs[j]? =some v→bz M' d v)→∃b vs ty,mP w0 M' Pc i cs w b vs ty:=by
       intro Rg e UD Qc
       subst e
       obtain ⟨b,vs,ty,k⟩:=hw.box i Rg (gq h1)
       refine ⟨b,vs,ty,by simp only [M',if_pos Pd];exact k.box,k.base,?_,k.none,k.cq,by rw [UD];exact k.len,Qc b vs ty k,fun sz a len cap q=>k.room sz a len cap (by simpa only [M',if_pos Pd] using q)⟩
       simp only [Pc,k.own,WO,ren,ft hnu,if_pos Pd]
      rcases PS with ⟨Rg,rfl,e,hm⟩|⟨Rg,rfl,e,Qj⟩|⟨Rg,PM,rfl,e,hc⟩|⟨_,_,_,_,_,_,e,_⟩|⟨rfl,Ue,_⟩
      ·obtain rfl:=Ob.box.inj e
       have Sy:=PG Rg (List.mem_append_left _ (kH (gq h1) hm))
       refine kept rfl (by simp) fun b vs ty k j d v p q=> ?_
       rw [VW,VU] at p
       obtain ⟨d0,p0,rfl⟩:=p
       exact ((k.rep j d0 v p0 q).lQ (Sy _ (V5 p0))).mono (MM.iU M')
      ·obtain rfl:=Ob.box.inj e
       rw [gK,V3] at Qj
       exact kept rfl rfl fun b vs ty k j d v p q=>((k.rep j d v p q).cut (Qj _ (V5 p))).mono hle
      ·obtain rfl:=Ob.box.inj e
       obtain ⟨c1,c2⟩:=oT hc
       refine kept rfl c1 fun b vs ty k j d v p q=> ?_
       have UH:j<Rg.length:=by
        rw [← c1]
        rcases VS j cs.length with h|h
        ·exact h
        ·rw [VO h] at p;cases p
       have TU:Rg[j]? =some Rg[j]:=by simp [UH]
       rcases c2 j _ d TU p with ⟨id,size,o,ob,hf,hg⟩|⟨Qj,rfl⟩
       ·rw [V9] at hf
        obtain ⟨hj1,hf⟩:=Cm hf
        obtain ⟨jj,rfl,hjj⟩:=md hf
        obtain ⟨d2,o2,ob2,SW,hu3,hn3⟩:=hgrow jj _ size hjj
        have e1:(dc+i*1000+j - dc) / 1000=i:=by omega
        have e2:(dc+i*1000+j - dc)%1000=j:=by omega
        have TW:WI dc (dc+i*1000+j)=true:=by rw [Wy];omega
        have Qt:fQ t s (dc+i*1000+j)=Rg[j]:=by
         simp only [fQ,TW,e1,e2]
         rw [show s.getD i .dead= .box Rg from gq h1]
         simp only []
         rw [VJ,TU]
         rfl
        have PF:rv (dc+i*1000+j)=v:=by
         simp only [rv,TW,e1,e2]
         rw [k.box]
         simp only [World.cell?,k.cq,q]
         rfl
        rcases l7 hg with ⟨fl,sz,xs,q1,rfl,_,q3,_⟩|⟨i',n,PM,q1,rfl,_,q3,_⟩
        ·have hr:=RO hjj (Qt.trans q1) (by rw [PF,← q1];exact k.rep j _ v TU q) q3
         rw [PF] at hr
         exact hr
        ·rcases root jj _ size hjj with ⟨_,_,_,_,_,_,_,r1,_⟩|⟨i2,n2,Q5,b2,cap2,r1,r2,_,_,_,r3,_,r4,_⟩
         ·rw [Qt,q1] at r1;cases r1
         ·rw [Qt,q1] at r1
          cases r1
          have hr:=RK hjj (Qt.trans q1) r2 r3 r4
          rw [PF] at hr
          exact hr
       ·exact ((k.rep j _ v TU q).cut Qj).mono hle
      ·cases e
      ·exact absurd rfl (Ue cs)
     ·rcases root _ k size hj with ⟨_,_,_,_,_,_,_,_,_,_,r,_⟩|⟨i',n,Rg,b,cap,q1,q2,q3,q4,q5,q6,q7,q8,q9⟩
      ·rw [PK] at r;cases r
      ·rw [PK] at q4
       obtain rfl:=Ob.box.inj (VA q4)
       obtain ⟨b2,vs,ty,kb⟩:=hw.box i' Rg q5
       obtain rfl:b2=b:=by have:=kb.box;rw [q6] at this;exact (VA this).symm
       have U0:¬i<n0:=by omega
       refine ⟨b2,vs,ty,?_,kb.base,?_,kb.none,kb.cq,by simpa using kb.len,fun j d v p q=> ?_,fun sz a len PC q=> ?_⟩
       ·simp only [M',if_neg U0,bxN,hj,q1];exact q6
       ·simp only [Pc,kb.own,WO,ren,jO Sk q3]
        congr 1
        omega
       ·rw [VW,VU] at p
        obtain ⟨d0,p0,rfl⟩:=p
        exact ((kb.rep j d0 v p0 q).lQ (q9 _ (V5 p0))).mono (MM.iU M')
       ·simp only [M',if_neg U0,hdr,hj,q1] at q
        split at q
        ·rename_i e
         subst e
         rw [q2] at q
         obtain ⟨rfl,rfl,rfl⟩:=Value.slice.inj (VA q)
         exact kb.room _ _ _ _ q7
        ·cases q
    ·
     intro i ver sz hi
     rcases newAt hi (by simp) with ⟨Pd,hli⟩|⟨hge,k,size,hj,PK⟩
     ·obtain ⟨o0,h1,h2⟩:=SN i _ hli
      rw [V9] at h2
      obtain ⟨hnu,PS⟩:=m7 h2 (by simp)
      have ho:o0= .bg ver sz:=by
       rcases PS with ⟨_,_,e,_⟩|⟨_,_,e,_⟩|⟨_,_,_,e,_⟩|⟨_,_,_,_,_,_,e,_⟩|⟨rfl,_⟩
       ·cases e
       ·cases e
       ·cases e
       ·cases e
       ·rfl
      subst ho
      obtain ⟨a,len,cap,k⟩:=hw.bg i ver sz (gq h1)
      refine ⟨a,len,cap,by simp only [M',if_pos Pd];exact k.br,fun v hv=>by simp only [M',if_pos Pd];exact k.last v hv,?_⟩
      rcases k.room with q|⟨b,vs,ty,fz,ha,r⟩
      ·exact .inl q
      ·refine .inr ⟨b,vs,ty,fz,ha,r.base,?_,r.cq,r.fz,r.cap,r.none⟩
       simp only [Pc,r.own,WO,ren,ft hnu,if_pos Pd]
     ·have Tl:¬i<n0:=by omega
      rcases root _ k size hj with ⟨fl,UC,xs,a,len,cap,o,q1,q2,q3,q4,q5,q6,q7⟩|⟨_,_,_,_,_,_,_,_,r,_⟩
      ·rw [PK] at q4
       obtain ⟨rfl,rfl⟩:=Ob.bg.inj (VA q4)
       refine ⟨a,len,cap,?_,fun v hv=> ?_,?_⟩
       ·simp only [M',if_neg Tl,hdr,hj,q1,if_true,q2]
       ·simp only [M',if_neg Tl,hdr,hj,q1,if_neg (show ¬v=0 by omega)]
       ·cases q6 with
        |aq b off vs RF Ph ha Po hc hr Pr ho=>
         rcases q7 with ⟨rfl,rfl⟩|⟨i',v,rfl,rfl,hs'⟩
         ·exact .inl ho
         ·obtain ⟨a',Pk,PC,k2⟩:=hw.bg i' v _ hs'
          have:M.br i' v=some _:=ho
          rw [k2.br] at this
          obtain ⟨rfl,rfl,rfl⟩:=Value.slice.inj (VA this)
          rcases k2.room with q|⟨b,vs,ty,fz,ha,r⟩
          ·exact .inl q
          ·refine .inr ⟨b,vs,ty,fz,ha,r.base,?_,r.cq,r.fz,r.cap,r.none⟩
           simp only [Pc,r.own,WO,ren,jO Sk q3]
           congr 1
           omega
      ·rw [PK] at r;cases r
    ·
     intro i F hi
     obtain ⟨o,Tx⟩:∃o,bE (l++new) i=o:=⟨_,rfl⟩
     rw [Tx] at hi
     have nb:∀cs,o≠ .box cs:=fun cs e=>by rw [e] at hi;cases hi
     have nd:o≠ .dead:=fun e=>by rw [e] at hi;cases hi
     have nf:∀v sz,o≠ .bg v sz:=fun v sz e=>by rw [e] at hi;cases hi
     have nl:∀k t ps ag bd,o≠ .lp k t ps ag bd:=fun k t ps ag bd e=>by rw [e] at hi;cases hi
     rcases newAt Tx nd with ⟨Pd,hli⟩|⟨hge,k,size,hj,PK⟩
     ·obtain ⟨o0,h1,h2⟩:=SN i _ hli
      rw [V9] at h2
      obtain ⟨hnu,PS⟩:=m7 h2 nd
      have ho:o0=o:=by
       rcases PS with ⟨_,_,e,_⟩|⟨_,_,e,_⟩|⟨_,_,_,e,_⟩|⟨_,_,_,_,_,_,e,_⟩|⟨rfl,_⟩
       ·exact absurd e (nb _)
       ·exact absurd e (nb _)
       ·exact absurd e (nb _)
       ·exact absurd e (nl _ _ _ _ _)
       ·rfl
      subst ho
      obtain ⟨b,Pf,clock,k⟩:=hw.mp i F (by rw [gq h1];exact hi)
      refine ⟨b,Pf,clock,by simp only [M',if_pos Pd];exact k.box,k.base,?_,k.none,k.cq,k.fits⟩
      simp only [Pc,k.own,WO,ren,ft hnu,if_pos Pd]
     ·rcases root _ k size hj with ⟨_,_,_,_,_,_,_,_,_,_,r,_⟩|⟨_,_,_,_,_,_,_,_,r,_⟩<;>rw [PK] at r<;>obtain rfl:=VA r
      ·exact absurd rfl (nf _ _)
      ·exact absurd rfl (nb _)
    ·
     intro i kk tt ps ag bd hi
     rcases newAt hi (by simp) with ⟨Pd,hli⟩|⟨hge,k,size,hj,PK⟩
     ·obtain ⟨o0,h1,h2⟩:=SN i _ hli
      rw [V9] at h2
      obtain ⟨hnu,PS⟩:=m7 h2 (by simp)
      have ho:o0= .lp kk tt ps ag bd∧je n0 tt=true:=by
       rcases PS with ⟨_,_,e,_⟩|⟨_,_,e,_⟩|⟨_,_,_,e,_⟩|⟨_,_,_,_,_,rfl,e,Qj⟩|⟨_,_,R5⟩
       ·cases e
       ·cases e
       ·cases e
       ·cases e;exact ⟨rfl,Qj⟩
       ·exact absurd rfl (R5 _ _ _ _ _)
      obtain ⟨rfl,Qj⟩:=ho
      rw [gK,V3] at Qj
      obtain ⟨b,r,k⟩:=hw.lp i kk tt ps ag bd (gq h1)
      refine ⟨b,r,by simp only [M',if_pos Pd];exact k.box,k.base,?_,k.cq,k.st,k.pd,⟨k.tm.1,fun j d v p q=>((k.tm.2 j d v p q).cut (Qj _ (V5 p))).mono hle⟩,k.ps,k.ag,k.bd⟩
      simp only [Pc,k.own,WO,ren,ft hnu,if_pos Pd]
     ·rcases root _ k size hj with ⟨_,_,_,_,_,_,_,_,_,_,r,_⟩|⟨_,_,_,_,_,_,_,_,r,_⟩<;>rw [PK] at r<;>cases r
    ·
     refine ⟨fun id PD=> ?_,fun id v PD=> ?_⟩
     ·simp only [M',if_neg (show ¬id<n0 by omega),bxN]
      rw [VO (by omega)]
     ·simp only [M',if_neg (show ¬id<n0 by omega),hdr]
      rw [VO (by omega)]
    ·
     refine ⟨by rw [ht1];exact Pm.1,fun i d' v p q=> ?_⟩
     have KO:i<t.length:=by
      rcases VS i t.length with h|h
      ·exact h
      ·rw [VO (by omega)] at p;cases p
     have hd:t[i]? =some t[i]:=by simp [KO]
     have Q4:=Ru i _ d' hd p
     rw [V9] at Q4
     unfold CZ at Q4
     split at Q4
     ·rename_i id size hf
      split at Q4
      ·rename_i d2 o hg
       obtain rfl:=VA Q4
       obtain ⟨hbi,hf⟩:=Cl hf
       obtain ⟨j,rfl,hj⟩:=md hf
       ·have U1:WI dc i=false:=by
         cases e:WI dc i with
         |false=>rfl
         |true=>rw [Wy] at e;omega
        have Qt:fQ t s i=t[i]:=by
         simp only [fQ,U1]
         rw [VJ,hd]
         rfl
        have PF:rv i=v:=by
         simp only [rv,U1]
         rw [Array.getD_eq_getD_getElem?,q]
         rfl
        rcases l7 hg with ⟨fl,sz,xs,q1,rfl,_,q3,_⟩|⟨i',n,PM,q1,rfl,_,q3,_⟩
        ·have hr:=RO hj (Qt.trans q1) (by rw [PF,← q1];exact Pm.2 i _ v hd q) q3
         rw [PF] at hr
         exact hr
        ·rcases root j _ size hj with ⟨_,_,_,_,_,_,_,r1,_⟩|⟨i2,n2,Q5,b2,cap2,r1,r2,_,_,_,r3,_,r4,_⟩
         ·rw [Qt,q1] at r1;cases r1
         ·rw [Qt,q1] at r1
          cases r1
          have hr:=RK hj (Qt.trans q1) r2 r3 r4
          rw [PF] at hr
          exact hr
      ·cases Q4
     ·split at Q4
      ·split at Q4
       ·rename_i Qj
        obtain rfl:=VA Q4
        exact ((Pm.2 i _ v hd q).cut Qj).mono hle
       ·cases Q4
      ·split at Q4
       ·rename_i hm
        split at Q4
        ·rename_i cs Pg
         obtain rfl:=VA Q4
         have Pg:t[i]= .agg cs:=Pg
         have hc:=PG cs (List.mem_append_right _ (List.mem_append_right _ (oq (by rw [VJ,hd];exact Pg) hm)))
         have hr:=(Pm.2 i _ v hd q)
         rw [Pg] at hr
         have hb:=hr.lQ (by rw [D.clean,D.gB,V3];exact hc)
         rw [D.aG,D.ej] at hb
         exact hb.mono (MM.iU M')
        ·cases Q4
       ·obtain rfl:=VA Q4
        exact .undef v
   ·cases h
  ·cases h
 ·cases h
section
variable {P:Program}
inductive aA (P:Program) (c:Code) (n0:Nat):List D→List Ob→Ex→List D→List Ob→Prop
  |out {t:List D} {s:List Ob} {ex:Ex} {t1 t':List D} {s1 s':List Ob} (sp:HS) (h:iZ P c t s ex t1 s1) (hx:ex≠ .norm) (hh:lB sp n0 t1 s1=some (t',s')) (PG:oo sp t1 s1):aA P c n0 t s ex t' s'
  |again {t:List D} {s:List Ob} {t1 t2:List D} {s1 s2:List Ob} {ex:Ex} {t':List D} {s':List Ob} (sp:HS) (h:iZ P c t s .norm t1 s1) (hh:lB sp n0 t1 s1=some (t2,s2)) (PG:oo sp t1 s1) (k:aA P c n0 t2 s2 ex t' s'):aA P c n0 t s ex t' s'
theorem aA.depth {c:Code} {n0:Nat} {t:List D} {s:List Ob} {ex:Ex} {t':List D} {s':List Ob} (h:aA P c n0 t s ex t' s'):n0≤s.length→n0≤s'.length∧
  ∃n,∀(rr:Option Nat) (K:Nat→Prop) (w0:de) (M:MM) (own:Nat→Option Nat) (w:World) (a:Act) (L:MM),L.Le (M.cut n0)→bH w0 M own (bE s) w→M.upto s.length→bV M t a.tmps→eU K M a.defers→
   Code.roundsIn (FW rr) 0 P c (fun e a' w'=>ex.is e∧∃M' Pc,bH w0 M' Pc (bE s') w'∧M'.upto s'.length∧L.Le M'∧bV M' t' a'.tmps∧eU K M' a'.defers) n a w:=by
 induction h with
 |out sp h hx hh PG=>
  intro hn
  obtain ⟨hl,hhead⟩:=l5 hh PG
  refine ⟨hl.1,1,fun rr K w0 M own w a L le hw hu ht hd=> ?_⟩
  rw [roundsIn_succ]
  refine wpIn_mono (h.run rr (fun e=>by cases e) K w0 M own w a hw hu ht hd) ?_
  rintro e a' w' ⟨h0,M1,own1,q1,q2,q3,q4,q5⟩
  obtain ⟨M2,Qy,r1,r2,r3,r4⟩:=hhead (WG hn h.len) q1 q2 q4
  have fin:∃M' Pc,bH w0 M' Pc (bE _) w'∧M'.upto _∧L.Le M'∧bV M' _ a'.tmps∧eU K M' a'.defers:=⟨M2,Qy,r1,r2,(le.trans (MM.lI q3 n0)).trans r3,r4,q5.mono r3.dE⟩
  rename_i ex _ _ _ _
  cases ex with
  |norm=>exact absurd rfl hx
  |exit i=>cases e<;>simp only [Ex.is] at h0;exact ⟨h0,fin⟩
  |ret=>cases e<;>simp only [Ex.is] at h0;exact ⟨h0,fin⟩
 |again sp h hh PG k ih=>
  intro hn
  obtain ⟨hl,hhead⟩:=l5 hh PG
  obtain ⟨i1,n,i2⟩:=ih hl.1
  refine ⟨i1,n+1,fun rr K w0 M own w a L le hw hu ht hd=> ?_⟩
  rw [roundsIn_succ]
  refine wpIn_mono (h.run rr (fun e=>by cases e) K w0 M own w a hw hu ht hd) ?_
  rintro e a' w' ⟨h0,M1,own1,q1,q2,q3,q4,q5⟩
  obtain ⟨M2,Qy,r1,r2,r3,r4⟩:=hhead (WG hn h.len) q1 q2 q4
  cases e<;>simp only [Ex.is] at h0
  refine i2 rr K w0 M2 Qy w' a' L ?_ r1 r2 r4 (q5.mono r3.dE)
  have:=MM.lI r3 n0
  rw [MM.tc] at this
  exact (le.trans (MM.lI q3 n0)).trans this
theorem aI.bf {c:Code} {n0:Nat} {t:List D} {s:List Ob} {ex:Ex} {t':List D} {s':List Ob} (hn:n0≤s.length) (h:aA P c n0 t s ex t' s'):aI P n0 (.loop c) t s ex t' s':=by
 obtain ⟨h1,n,h2⟩:=h.depth hn
 exact ⟨fun rr K w0 M own w a hw hu ht hd=>wpIn_loop_rounds n (h2 rr K w0 M own w a (M.cut n0) (.refl _) hw hu ht hd),h1⟩
theorem lJ {ρ':Type} {r:ρ'} :∀ {l:List (List D)} {z:Z P} {k:Z P→Option ρ'},Cr l z k=some r→∃z',k z'=some r∧(z'.c→z.c∧∀cs∈l,∀c∈cs,c.clean=true)
 | [],z,k,h=>⟨z,h,fun q=>⟨q,fun _ h=>by simp at h⟩⟩
 |cs::l,z,k,h=>by
  rw [Cr] at h
  split at h
  ·rename_i PM hc o _
   obtain ⟨z',h1,h2⟩:=lJ h
   refine ⟨z',h1,fun q=>⟨(h2 q).1.2,fun x hx=> ?_⟩⟩
   rcases Wq.1 hx with rfl|hx
   ·exact (h2 q).1.1▸hc
   ·exact (h2 q).2 x hx
  ·cases h
theorem bj.Af {rd:Bool} {c:Code} {sp:HS} {t t1:List D} {s s1:List Ob} {ex:Ex} {t2:List D} {s2:List Ob} (h:aI P s.length c t1 s1 ex t2 s2) (hh:lB sp s.length t s=some (t1,s1)) (PG:oo sp t s):bj P rd c t s ex t2 s2:=by
 obtain ⟨hl,hhead⟩:=l5 hh PG
 refine ⟨fun rr _ K w0 M own w a hw hu ht hd=> ?_,h.len⟩
 obtain ⟨M2,Qy,r1,r2,r3,r4⟩:=hhead (VF _) hw hu ht
 refine wpIn_mono (h.run rr K w0 M2 Qy w a r1 r2 r4 (hd.mono r3.dE)) ?_
 rintro e a' w' ⟨h0,M',Pc,q1,q2,q3,q4,q5⟩
 have:=MM.lI r3 s.length
 rw [MM.tc] at this
 exact ⟨h0,M',Pc,q1,q2,((MM.Iz hu).trans this).trans q3,q4,q5⟩
inductive iY (P:Program) (rd:Bool) (c:Code):List D→List Ob→Ex→List D→List Ob→Prop
  |out {t:List D} {s:List Ob} {ex:Ex} {t1:List D} {s1:List Ob} (h:bj P rd c t s ex t1 s1) (hx:ex≠ .norm):iY P rd c t s ex t1 s1
  |again {t:List D} {s:List Ob} {t1:List D} {s1:List Ob} {ex:Ex} {t':List D} {s':List Ob} (h:bj P rd c t s .norm t1 s1) (k:iY P rd c t1 s1 ex t' s'):iY P rd c t s ex t' s'
theorem iY.depth {rd:Bool} {c:Code} {t:List D} {s:List Ob} {ex:Ex} {t':List D} {s':List Ob} (h:iY P rd c t s ex t' s'):s.length≤s'.length∧
  ∃n,∀(rr:Option Nat) (_:rd=false→rr=none) (K:Nat→Prop) (w0:de) (M:MM) (own:Nat→Option Nat) (w:World) (a:Act) (L:MM),L.Le M→bH w0 M own (bE s) w→M.upto s.length→bV M t a.tmps→eU K M a.defers→
   Code.roundsIn (FW rr) 0 P c (fun e a' w'=>ex.is e∧∃M' Pc,bH w0 M' Pc (bE s') w'∧M'.upto s'.length∧L.Le M'∧bV M' t' a'.tmps∧eU K M' a'.defers) n a w:=by
 induction h with
 |out h hx=>
  refine ⟨h.len,1,fun rr QQ K w0 M own w a L le hw hu ht hd=> ?_⟩
  rw [roundsIn_succ]
  refine wpIn_mono (h.run rr QQ K w0 M own w a hw hu ht hd) ?_
  rintro e a' w' ⟨h0,M1,own1,q1,q2,q3,q4,q5⟩
  have fin:∃M' Pc,bH w0 M' Pc (bE _) w'∧M'.upto _∧L.Le M'∧bV M' _ a'.tmps∧eU K M' a'.defers:=⟨M1,own1,q1,q2,le.trans q3,q4,q5⟩
  rename_i ex _ _
  cases ex with
  |norm=>exact absurd rfl hx
  |exit i=>cases e<;>simp only [Ex.is] at h0;exact ⟨h0,fin⟩
  |ret=>cases e<;>simp only [Ex.is] at h0;exact ⟨h0,fin⟩
 |again h k ih=>
  obtain ⟨i1,n,i2⟩:=ih
  refine ⟨WG h.len i1,n+1,fun rr QQ K w0 M own w a L le hw hu ht hd=> ?_⟩
  rw [roundsIn_succ]
  refine wpIn_mono (h.run rr QQ K w0 M own w a hw hu ht hd) ?_
  rintro e a' w' ⟨h0,M1,own1,q1,q2,q3,q4,q5⟩
  cases e<;>simp only [Ex.is] at h0
  exact i2 rr QQ K w0 M1 own1 w' a' L (le.trans q3) q1 q2 q4 q5
theorem bj.bf {rd:Bool} {c:Code} {t:List D} {s:List Ob} {ex:Ex} {t':List D} {s':List Ob} (h:iY P rd c t s ex t' s'):bj P rd (.loop c) t s ex t' s':=by
 obtain ⟨h1,n,h2⟩:=h.depth
 exact ⟨fun rr QQ K w0 M own w a hw hu ht hd=>wpIn_loop_rounds n (h2 rr QQ K w0 M own w a M (.refl _) hw hu ht hd),h1⟩
theorem wi {rd:Bool} {ρ':Type} {r:ρ'} {c:Code} {body:List D→List Ob→Z P→(Ex→List D→List Ob→Z P→Option ρ')→Option ρ'}
  (hb:∀ {t:List D} {s:List Ob} {z:Z P} {K:Ex→List D→List Ob→Z P→Option ρ'},body t s z K=some r→∃ex t' s' z',K ex t' s' z'=some r∧(z'.c→z.c∧bj P rd c t s ex t' s')):
  ∀ {n:Nat} {t:List D} {s:List Ob} {z:Z P} {K:Ex→List D→List Ob→Z P→Option ρ'},iter body n t s z K=some r→∃ex t' s' z',K ex t' s' z'=some r∧(z'.c→z.c∧iY P rd c t s ex t' s')
 |0,t,s,z,K,h=>by simp [iter] at h
 |n+1,t,s,z,K,h=>by
  rw [iter] at h
  obtain ⟨ex,t1,s1,z1,h1,h2⟩:=hb h
  split at h1
  ·obtain ⟨ex',t2,s2,z2,h3,h4⟩:=wi hb h1
   exact ⟨ex',t2,s2,z2,h3,fun q=>⟨(h2 (h4 q).1).1,.again (h2 (h4 q).1).2 (h4 q).2⟩⟩
  ·rename_i Px
   exact ⟨_,t1,s1,z1,h1,fun q=>⟨(h2 q).1,.out (h2 q).2 Px⟩⟩
end
def AH (K:Nat→Prop) (w0:de) (M:MM) (ex:Ex) (t':List D) (s':List Ob):Exit→Act→World→Prop:=
  fun e a' w'=>ex.is e∧∃M' Pc,bH w0 M' Pc (bE s') w'∧M'.upto s'.length∧M.Le M'∧bV M' t' a'.tmps∧eU K M' a'.defers
theorem xg {K:Nat→Prop} {w0:de} {M M1:MM} (le:M.Le M1) {ex:Ex} {t':List D} {s':List Ob} {e:Exit} {a:Act} {w:World} (h:AH K w0 M1 ex t' s' e a w):AH K w0 M ex t' s' e a w:=by
 obtain ⟨h0,M',Pc,h1,h2,h3,h4,h5⟩:=h
 exact ⟨h0,M',Pc,h1,h2,le.trans h3,h4,h5⟩
theorem fr {P:Program} {b:Frame} {a:Act} {k:List Item} {cs:List Frame} {w:World} {c:Code} :step P (lone (b.atR a (.code (.scope c)::k)) cs w)= .next (lone (b.atR a (.code c:: .inScope c::k)) cs w):=
 step_lone_go (by simp [stepG,stepG.exec,Frame.atR])
theorem pa {P:Program} {b:Frame} {a:Act} {k:List Item} {cs:List Frame} {w:World} {c:Code} :step P (lone (b.atR a (.inScope c::k)) cs w)= .next (lone (b.atR a k) cs w):=
 step_lone_go (by simp [stepG,stepG.exec,Frame.atR])
theorem j1 {P:Program} {F:Fence} {n:Nat} {Q:Exit→Act→World→Prop} {a:Act} {w:World} {c:Code} (h:c.wpIn F n P (Exit.noGoto Q) a w):(Code.scope c).wpIn F n P Q a w:=by
 intro b k cs hro hb hr
 have h0:(lone (b.atR a (.code (.scope c)::k)) cs w).fenced P F:=fenced_calm hb hr rfl
 obtain ⟨e,a₁,w₁,hq,PN⟩:=h b (.inScope c::k) cs hro hb hr
 cases e with
 |normal=>exact ⟨.normal,a₁,w₁,hq,.head h0 fr (StepsIn.trans PN (.one (fenced_calm hb hr rfl) pa))⟩
 |exit id=>
  have hx:exitTo id (.inScope c::k)=exitTo id k:=by simp [exitTo]
  exact ⟨.exit id,a₁,w₁,hq,fun k' hk=> .head h0 fr (PN.1 k' (by rw [hx];exact hk)),
   fun Rn hk=>let ⟨k₁,h1,h2⟩:=PN.2 Rn (by rw [hx];exact hk);⟨k₁,h1,.head h0 fr h2⟩⟩
 |goto l=>exact hq.elim
 |ret=>exact ⟨_,a₁,w₁,hq,.of_steps (.one h0 fr) PN⟩
 |panic ch=>exact ⟨_,a₁,w₁,hq,.of_steps (.one h0 fr) PN⟩
 |outgrown=>exact ⟨_,a₁,w₁,hq,.of_steps (.one h0 fr) PN⟩
section
variable {P:Program} {rd:Bool}
theorem bj.skip (t:List D) (s:List Ob):bj P rd .skip t s .norm t s:=
 ⟨fun _ _ _ _ M own _ _ hw hu ht hd=>wpIn_skip ⟨trivial,M,own,hw,hu,.refl M,ht,hd⟩,VF _⟩
theorem bj.label (l:Nat) (t:List D) (s:List Ob):bj P rd (.label l) t s .norm t s:=
 ⟨fun _ _ _ _ M own _ _ hw hu ht hd=>wpIn_label ⟨trivial,M,own,hw,hu,.refl M,ht,hd⟩,VF _⟩
theorem bj.exit (i:Nat) (t:List D) (s:List Ob):bj P rd (.exit i) t s (.exit i) t s:=
 ⟨fun _ _ _ _ M own _ _ hw hu ht hd=>wpIn_exit ⟨rfl,M,own,hw,hu,.refl M,ht,hd⟩,VF _⟩
theorem bj.Lu (t:List D) (s:List Ob):bj P rd .ret t s .ret t s:=
 ⟨fun _ _ _ _ M own _ _ hw hu ht hd=>wpIn_ret ⟨trivial,M,own,hw,hu,.refl M,ht,hd⟩,VF _⟩
theorem bj.Lj {x y:Code} {t t1 t2:List D} {s s1 s2:List Ob} {ex:Ex} (h:bj P rd x t s .norm t1 s1) (k:bj P rd y t1 s1 ex t2 s2):bj P rd (.seq x y) t s ex t2 s2:=by
 refine ⟨fun rr QQ K w0 M own w a hw hu ht hd=>wpIn_seq (wpIn_mono (h.run rr QQ K w0 M own w a hw hu ht hd) ?_),WG h.len k.len⟩
 rintro e a' w' ⟨h0,M',Pc,h1,h2,h3,h4,h5⟩
 cases e<;>simp only [Ex.is] at h0
 exact wpIn_mono (k.run rr QQ K w0 M' Pc w' a' h1 h2 h4 h5) fun e a w hh=>xg h3 hh
theorem bj.Li {x y:Code} {t t1:List D} {s s1:List Ob} {ex:Ex} (h:bj P rd x t s ex t1 s1) (hx:ex≠ .norm):bj P rd (.seq x y) t s ex t1 s1:=by
 refine ⟨fun rr QQ K w0 M own w a hw hu ht hd=>wpIn_seq (wpIn_mono (h.run rr QQ K w0 M own w a hw hu ht hd) ?_),h.len⟩
 rintro e a' w' ⟨h0,h1⟩
 cases ex with
 |norm=>exact absurd rfl hx
 |exit i=>cases e<;>simp only [Ex.is] at h0;exact ⟨h0,h1⟩
 |ret=>cases e<;>simp only [Ex.is] at h0;exact ⟨h0,h1⟩
theorem bj.cond {c:Operand} {x y:Code} {t t1:List D} {s s1:List Ob} {ex:Ex} {b:Bool} (hb:bJ t c= .bool b) (h:bj P rd (if b then x else y) t s ex t1 s1):bj P rd (.cond c x y) t s ex t1 s1:=by
 refine ⟨fun rr QQ K w0 M own w a hw hu ht hd=>wpIn_cond (t:=b) ?_ (h.run rr QQ K w0 M own w a hw hu ht hd),h.len⟩
 have hr:=kY ht c
 rw [hb] at hr
 generalize hv:a.eval c=v at hr
 cases hr
 rfl
theorem bj.IV {id:Nat} {x:Code} {t t1:List D} {s s1:List Ob} (h:bj P rd x t s (.exit id) t1 s1):bj P rd (.block id x) t s .norm t1 s1:=by
 refine ⟨fun rr QQ K w0 M own w a hw hu ht hd=>wpIn_block (wpIn_mono (h.run rr QQ K w0 M own w a hw hu ht hd) ?_),h.len⟩
 rintro e a' w' ⟨h0,h1⟩
 cases e<;>simp only [Ex.is] at h0
 subst h0
 simp only [Exit.inBlock,if_true]
 exact ⟨trivial,h1⟩
theorem bj.EK {id:Nat} {x:Code} {t t1:List D} {s s1:List Ob} {ex:Ex} (h:bj P rd x t s ex t1 s1) (hx:∀i,ex= .exit i→i≠id):bj P rd (.block id x) t s ex t1 s1:=by
 refine ⟨fun rr QQ K w0 M own w a hw hu ht hd=>wpIn_block (wpIn_mono (h.run rr QQ K w0 M own w a hw hu ht hd) ?_),h.len⟩
 rintro e a' w' ⟨h0,h1⟩
 cases ex with
 |norm=>cases e<;>simp only [Ex.is] at h0;exact ⟨h0,h1⟩
 |exit i=>
  cases e<;>simp only [Ex.is] at h0
  subst h0
  simp only [Exit.inBlock,if_neg (hx _ rfl)]
  exact ⟨rfl,h1⟩
 |ret=>cases e<;>simp only [Ex.is] at h0;exact ⟨h0,h1⟩
theorem bj.scope {x:Code} {t t1:List D} {s s1:List Ob} {ex:Ex} (h:bj P rd x t s ex t1 s1):bj P rd (.scope x) t s ex t1 s1:=by
 refine ⟨fun rr QQ K w0 M own w a hw hu ht hd=>j1 (wpIn_mono (h.run rr QQ K w0 M own w a hw hu ht hd) ?_),h.len⟩
 rintro e a' w' ⟨h0,h1⟩
 cases ex<;>cases e<;>simp only [Ex.is] at h0<;>exact ⟨h0,h1⟩
theorem bj.text {id:Nat} {ops:Array Oper} {t t1:List D} {s s1:List Ob} {tr:List Tr} (h:Trace P ops ops.toList t s tr t1 s1):bj P rd (.region id ops false) t s .norm t1 s1:=by
 refine ⟨fun rr QQ K w0 M own w a hw hu ht hd=>wpIn_region ?_,gD h⟩
 rw [List.range_eq_range',show ops.size=ops.toList.length by simp]
 exact mz rr h 0 rfl hw hu ht rfl fun M' Pc w' a' le up Qv Tm S8=>⟨trivial,M',Pc,Qv,up,le,Tm,S8▸hd.mono le.dE⟩
theorem bj.draw {id:Nat} {ops:Array Oper} {t t1:List D} {s s1:List Ob} {tr:List Tr} (hm:P.follows .mixedOrders=true) (h:Trace P ops ops.toList t s tr t1 s1) (hd:kK ops ((tr.map Tr.fp).reverse++ [])=true):bj P rd (.region id ops true) t s .norm t1 s1:=
 ⟨fun rr _ K _ _ _ _ _ hw hu ht UI=>vp h hd hm id hw hu ht rfl rr fun M' Pc _ _ le up Qv Tm S8=>⟨trivial,M',Pc,Qv,up,le,Tm,S8▸UI.mono le.dE⟩,gD h⟩
theorem pK {P:Program} {a:Act} {g:Operand} {gf:FuncId} {fv cv:Array Value} {l:Nat} (hf:a.eval g= .func (.func gf) fv cv) (w:World):
  (resolve a.eval (rangeCall g l) 0).run P w= .ok { target:= .fn (.func gf) cv,args:=fv++ #[.func (.yield l) #[] #[]] } w:=by
 have e:a.eval (.const (.func (.yield l) #[] #[]))= .func (.yield l) #[] #[]:=rfl
 simp [rangeCall,resolve,hf,Deferred.ofValue,e]
theorem bV.g6 {M:MM} {bO:List Nat} :∀ {t:List D} {vs:Array Value} (i:Nat),bV M t vs→bV M (g6 bO i t) vs:=by
 intro t vs i h
 have len:∀(t:List D) (i:Nat),(Go.Ev.g6 bO i t).length=t.length:=by
  intro t
  induction t with
  |nil=>intro i;rfl
  |cons d r ih=>intro i;simp [Go.Ev.g6,ih]
 have Tc:∀(t:List D) (i k:Nat) (d:D),(Go.Ev.g6 bO i t)[k]? =some d→d= .undef∨t[k]? =some d:=by
  intro t
  induction t with
  |nil=>intro i k d h;simp [Go.Ev.g6] at h
  |cons a r ih=>
   intro i k d h
   cases k with
   |zero=>
    simp only [Go.Ev.g6,Wt,VI] at h
    split at h
    ·exact .inr (by simp [h])
    ·exact .inl h.symm
   |succ k=>simp only [Go.Ev.g6,Wp] at h;simpa using ih _ _ _ h
 refine ⟨by rw [len];exact h.1,fun k d v p q=> ?_⟩
 rcases Tc t i k d p with rfl|e
 ·exact .undef v
 ·exact h.2 k d v e q
theorem bV.set {M:MM} {t:List D} {vs:Array Value} (h:bV M t vs) {i:Nat} {d:D} {v:Value} (hr:bz M d v):bV M (t.set i d) (vs.setIfInBounds i v):=by
 refine ⟨by simp [h.1],fun k d' v' p q=> ?_⟩
 by_cases e:k=i
 ·subst e
  have Pd:k<t.length:=by
   rcases VS k t.length with x|x
   ·exact x
   ·rw [VO (by simpa using x)] at p;cases p
  have QV:k<vs.size:=by rw [← h.1];exact Pd
  simp [Pd] at p
  simp [QV] at q
  subst p q
  exact hr
 ·rw [List.getElem?_set_ne (Ne.symm e)] at p
  rw [Array.getElem?_setIfInBounds_ne (Ne.symm e)] at q
  exact h.2 k d' v' p q
theorem bV.jr {M:MM} :∀ {ps:List Nat} {args:List D} {vs:List Value} {t:List D} {tv:Array Value},bV M t tv→args.length=vs.length→(∀(i:Nat) (d:D) (v:Value),args[i]? =some d→vs[i]? =some v→bz M d v)→
  bV M (jr t (ps.zip args)) ((ps.zip vs).foldl (fun tmps (x:Nat×Value)=>tmps.setIfInBounds x.1 x.2) tv)
 | [],args,vs,t,tv,h,hl,hr=>by simpa [Go.Ev.jr] using h
 |p::ps,[],[],t,tv,h,hl,hr=>by simpa [Go.Ev.jr] using h
 |p::ps,[],v::vs,t,tv,h,hl,hr=>by simp at hl
 |p::ps,d::args,[],t,tv,h,hl,hr=>by simp at hl
 |p::ps,d::args,v::vs,t,tv,h,hl,hr=>by
  simp only [List.zip_cons_cons,Go.Ev.jr,List.foldl_cons]
  exact bV.jr (h.set (hr 0 d v rfl rfl)) (by simpa using hl) (fun i d' v' a b=>hr (i+1) d' v' (by simpa using a) (by simpa using b))
theorem bj.range {g:Operand} {ps:Array Tmp} {ag bd:Code} {t:List D} {s:List Ob} {gf:FuncId} {first cap:List D} {bO:List Nat} {d:D} {s2:List Ob} {k:Lk} {t5:List D} {R1:Array Nat} {RW RU:Code} {ex:Ex}
  (hg:bJ t g= .fn (.func gf) first cap) (Pt:bW P gf (first++(.iD s.length::cap)) (s++ [.lp .ready (g6 bO 0 t) ps ag bd]) d s2) (hk:s2.getD s.length .dead= .lp k t5 R1 RW RU)
  (hex:(k= .ready∧ex= .norm)∨(k= .ret∧ex= .ret)∨∃i,k= .exit i∧ex= .exit i):bj P false (.rangeFunc g ps ag bd) t s ex t (s2.set s.length .dead):=by
 have hlen:=Pt.len
 rw [Vu,V0] at hlen
 refine ⟨fun rr QQ K w0 M own w a hw hu ht hd=> ?_,by rw [Vv];omega⟩
 obtain rfl:=QQ rfl
 have Qo:=kY ht g
 rw [hg] at Qo
 generalize hfv:a.eval g=fval at Qo
 cases Qo with
 |fn h1 h2 r1 r2=>
  rename_i fv cv
  refine wpIn_rangeFunc ?_
  intro fn _
  have Sv:=hw.J5
  obtain ⟨rec,hrec⟩:∃rec:Loop,rec= { state:= .ready,pending:=none,fn,tmps:=a.tmps,params:=ps,assign:=ag,body:=bd,defers:=w.heap.size } :=⟨_,rfl⟩
  have SO:=M.qg w.heap.size
  have QW:(M.lP w.heap.size).box s.length=none:=hu.1 _ (VF _)
  have hhs:∀v,(M.lP w.heap.size).br s.length v=none:=fun v=>hu.2 _ v (VF _)
  have QY:=Sv.J6 (k:= .ready) (t:=g6 bO 0 t) (r:=rec) QW hhs (by rw [hrec];rfl) (fun _=>by rw [hrec];rfl) (by rw [hrec];exact (ht.mono SO).g6 0)
  have Qw:=MM.dh (b:=(w.alloc (.deferred (some []))).heap.size) QW
  have Po:(w.alloc (.deferred (some []))).heap.size=w.heap.size+1:=World.size_alloc _ _
  rw [show rec.params=ps by rw [hrec],show rec.assign=ag by rw [hrec],show rec.body=bd by rw [hrec],← lR] at QY
  have P6:((M.lP w.heap.size).bk s.length (w.alloc (.deferred (some []))).heap.size).upto (s++ [Ob.lp .ready (g6 bO 0 t) ps ag bd]).length:=by
   rw [Vu,V0]
   refine ⟨fun i hi=> ?_,fun i v hi=>hu.2 i v (by omega)⟩
   simp only [MM.bk,if_neg (show ¬i=s.length by omega)]
   exact hu.1 i (by omega)
  have Pq:bV ((M.lP w.heap.size).bk s.length (w.alloc (.deferred (some []))).heap.size) (first++(.iD s.length::cap)) ((fv++ #[.func (.yield (w.heap.size+1)) #[] #[]])++cv):=by
   rw [Array.append_assoc]
   refine bV.append (bV.mono ⟨h1,r1⟩ (SO.trans Qw)) ?_
   rw [show (D.iD s.length::cap)= [D.iD s.length]++cap from rfl]
   refine bV.append ⟨rfl,fun i d v p q=> ?_⟩ (bV.mono ⟨h2,r2⟩ (SO.trans Qw))
   cases i with
   |zero=>
    simp at p q
    subst p q
    exact .iD (by simp [MM.bk,Po])
   |succ i=>simp at p
  obtain ⟨fnc,code,e1,e2,e3⟩:=Pt.CF
  refine ⟨w.heap.size+1,[{ target:= .collected w.heap.size,args:= #[] }],(w.alloc (.deferred (some []))).alloc (.loop rec),_,_,gf,(fv++ #[.func (.yield (w.heap.size+1)) #[] #[]])++cv,(w.alloc (.deferred (some []))).alloc (.loop rec),?_,pK hfv _,fun _ _=>trivial,?_,fun e=>(by cases e),?_⟩
  ·rw [hrec];exact run_enterLoop_outer _ _ _ _ _
  ·simp only [invoke,callFunc,VV,run_program,Result.andThen_ok,e1,e3,Bool.false_eq_true,if_false,e2,Option.isNone_some,V1]
  have RT:CallsIn (FW none) (0 - 1) P gf ((fv++ #[.func (.yield (w.heap.size+1)) #[] #[]])++cv) ((w.alloc (.deferred (some []))).alloc (.loop rec)) _:=(callsIn_wide (n:=0)).2 (Pt.run w0 _ _ _ _ QY P6 Pq)
  refine RT.mono ?_
  rintro e w3 ⟨v,M',Pc,rfl,q1,q2,q3,q4⟩
  have QS:M.Le M':=(SO.trans Qw).trans q3
  obtain ⟨l,r,q⟩:=q1.lp s.length k t5 R1 RW RU hk
  have TW:M'.box s.length=some (w.heap.size+1):=q3.box _ _ (by simp [MM.bk,Po])
  have el:l=w.heap.size+1:=by have:=q.box;rw [TW] at this;exact (VA this).symm
  subst el
  have Ue:k≠ .busy:=by rcases hex with ⟨rfl,_⟩|⟨rfl,_⟩|⟨i,rfl,_⟩<;>(intro e;cases e)
  have Pr:r.state≠ .busy:=by
   rw [q.st]
   rcases hex with ⟨rfl,_⟩|⟨rfl,_⟩|⟨i,rfl,_⟩<;>(intro e;cases e)
  have Tb:=q1.C1 (k':= .ready) (r':= { r with state:= .exhausted }) q .dead (.inl rfl)
  have Pd:s.length<s2.length:=by omega
  rw [← jq Pd] at Tb
  have hd4:eU K M' ({ target:= .collected w.heap.size,args:= #[] } ::a.defers):=by
   obtain ⟨k0,bs,b1,b2,b3⟩:=hd
   have PK:∀b,M.dE b→b≠w.heap.size:=fun b hb e=>by
    have:=(hw.dE b hb).2
    rw [e] at this
    simp at this
   refine ⟨fun b hb=>QS.dE b (k0 b hb),w.heap.size::bs,by rw [b1];rfl,List.nodup_cons.2 ⟨fun hm=>PK _ (b3 _ hm).1 rfl,b2⟩,?_⟩
   intro b hb
   rcases Wq.1 hb with rfl|hb
   ·exact ⟨q3.dE _ (Qw.dE _ (.inr rfl)),fun hK=>PK _ (k0 _ hK) rfl⟩
   ·exact ⟨QS.dE b (b3 b hb).1,(b3 b hb).2⟩
  have fin:∃M' Pc,bH w0 M' Pc (bE (s2.set s.length .dead)) (bo w3 (w.heap.size+1) (.loop { r with state:= .exhausted }))∧M'.upto (s2.set s.length .dead).length∧M.Le M'∧bV M' t a.tmps∧eU K M' ({ target:= .collected w.heap.size,args:= #[] } ::a.defers):=
   ⟨M',Pc,Tb,by rw [Vv];exact q2,QS,ht.mono QS,hd4⟩
  refine ⟨k.F9,bo w3 (w.heap.size+1) (.loop { r with state:= .exhausted }),?_,?_⟩
  ·rw [← q.pd Ue]
   exact run_endLoop (P:=P) q.cq Pr
  ·rcases hex with ⟨rfl,rfl⟩|⟨rfl,rfl⟩|⟨i,rfl,rfl⟩
   ·exact ⟨trivial,fin⟩
   ·exact wpIn_ret ⟨trivial,fin⟩
   ·exact wpIn_exit ⟨rfl,fin⟩
variable {ρ':Type} {r:ρ'}
theorem dH {inl:AJ P ρ'} (PJ:iC P inl) (hm:P.follows .mixedOrders=true):∀ {rd:Bool} (c:Code) {t:List D} {s:List Ob} {z:Z P} {K:Ex→List D→List Ob→Z P→Option ρ'},dZ P inl rd c t s z K=some r→
  ∃ex t' s' z',K ex t' s' z'=some r∧(z'.c→z.c∧bj P rd c t s ex t' s')
 |rd,.skip,t,s,z,K,h=>⟨_,_,_,z,by simpa only [dZ] using h,fun c=>⟨c,.skip t s⟩⟩
 |rd,.label l,t,s,z,K,h=>⟨_,_,_,z,by simpa only [dZ] using h,fun c=>⟨c,.label l t s⟩⟩
 |rd,.exit i,t,s,z,K,h=>⟨_,_,_,z,by simpa only [dZ] using h,fun c=>⟨c,.exit i t s⟩⟩
 |rd,.ret,t,s,z,K,h=>⟨_,_,_,z,by simpa only [dZ] using h,fun c=>⟨c,.Lu t s⟩⟩
 |rd,.scope x,t,s,z,K,h=>by
  rw [dZ] at h
  obtain ⟨ex,t',s',z',h1,h2⟩:=dH PJ hm x h
  exact ⟨ex,t',s',z',h1,fun c=>⟨(h2 c).1,(h2 c).2.scope⟩⟩
 |rd,.region id ops draw,t,s,z,K,h=>by
  rw [dZ] at h
  obtain ⟨tr,t',s',z',h1,h2⟩:=eg PJ h
  split at h1
  ·exact ⟨_,_,_,z',h1,fun c=>⟨(h2 c).1,.text (h2 c).2⟩⟩
  ·obtain ⟨hd,h1⟩:=bl h1
   exact ⟨_,_,_,z',h1,fun c=>⟨(h2 c).1,.draw hm (h2 c).2 hd⟩⟩
 |rd,.seq x y,t,s,z,K,h=>by
  rw [dZ] at h
  obtain ⟨ex,t1,s1,z1,h1,h2⟩:=dH PJ hm x h
  split at h1
  ·obtain ⟨ex',t2,s2,z2,h3,h4⟩:=dH PJ hm y h1
   exact ⟨ex',t2,s2,z2,h3,fun c=>⟨(h2 (h4 c).1).1,(h2 (h4 c).1).2.Lj (h4 c).2⟩⟩
  ·rename_i Px
   exact ⟨_,_,_,z1,h1,fun c=>⟨(h2 c).1,(h2 c).2.Li Px⟩⟩
 |rd,.cond q x y,t,s,z,K,h=>by
  rw [dZ] at h
  split at h
  ·rename_i b hb
   obtain ⟨z1,⟨h1,h2⟩|⟨h1,h2⟩⟩:=gQ h
   ·obtain ⟨ex,t',s',z',h3,h4⟩:=dH PJ hm x h1
    exact ⟨ex,t',s',z',h3,fun c=>⟨(h2 (h4 c).1).1,.cond (b:=true) (by rw [hb,(h2 (h4 c).1).2]) (h4 c).2⟩⟩
   ·obtain ⟨ex,t',s',z',h3,h4⟩:=dH PJ hm y h1
    exact ⟨ex,t',s',z',h3,fun c=>⟨(h2 (h4 c).1).1,.cond (b:=false) (by rw [hb,(h2 (h4 c).1).2]) (h4 c).2⟩⟩
  ·cases h
 |rd,.block id x,t,s,z,K,h=>by
  rw [dZ] at h
  split at h
  ·rename_i sp n0 c' t1 s1 ex t2 s2 hg rest _
   split at h
   ·rename_i t' s' hh
    obtain ⟨hn,h'⟩:=bl h
    rw [VZ] at hn
    subst hn
    obtain ⟨z',h1,h2⟩:=lJ h'
    exact ⟨ex,t2,s2,_,h1,fun q=>have k:=(h2 q).1;⟨k.2,.Af (k.1.1▸k.1.2.1▸k.1.2.2▸hg) hh (h2 q).2⟩⟩
   ·cases h
  ·obtain ⟨ex,t1,s1,z1,h1,h2⟩:=dH PJ hm x h
   split at h1
   ·rename_i i
    split at h1
    ·rename_i hi
     have hi:i=id:=by simpa using hi
     subst hi
     exact ⟨_,_,_,z1,h1,fun c=>⟨(h2 c).1,(h2 c).2.IV⟩⟩
    ·rename_i hi
     have hi:i≠id:=fun e=>by subst e;simp at hi
     exact ⟨_,_,_,z1,h1,fun c=>⟨(h2 c).1,(h2 c).2.EK fun j hj=>by cases hj;exact hi⟩⟩
   ·rename_i Px
    exact ⟨_,_,_,z1,h1,fun c=>⟨(h2 c).1,(h2 c).2.EK fun j hj=>absurd hj (Px j)⟩⟩
 |rd,.loop x,t,s,z,K,h=>by
  rw [dZ] at h
  split at h
  ·obtain ⟨ex,t',s',z',h1,h2⟩:=wi (c:=x) (fun h=>dH PJ hm x h) h
   exact ⟨ex,t',s',z',h1,fun k=>⟨(h2 k).1,.bf (h2 k).2⟩⟩
  ·rename_i sp n0 c' t1 s1 ex t2 s2 hg rest _
   split at h
   ·rename_i t' s' hh
    obtain ⟨hn,h'⟩:=bl h
    rw [VZ] at hn
    subst hn
    obtain ⟨z',h1,h2⟩:=lJ h'
    exact ⟨ex,t2,s2,_,h1,fun q=>have k:=(h2 q).1;⟨k.2,.Af (k.1.1▸k.1.2.1▸k.1.2.2▸hg) hh (h2 q).2⟩⟩
   ·cases h
  ·rename_i c' t1 s1 ex t2 s2 hg rest _
   exact ⟨ex,t2,s2,_,h,fun k=>⟨k.2,.any (k.1.1▸k.1.2.1▸k.1.2.2▸hg) _⟩⟩
  ·cases h
 |rd,.rangeFunc g ps ag bd,t,s,z,K,h=>by
  rw [dZ] at h
  split at h
  ·split at h
   ·rename_i gf first cap hg
    rw [er,lU] at h
    obtain ⟨d,s2,z1,h1,h2⟩:=PJ (.fn gf) _ _ _ _ r h
    split at h1
    ·rename_i hk
     rw [fB] at h1
     exact ⟨_,_,_,z1,h1,fun c=>⟨(h2 c).1,bj.range hg (h2 c).2 hk (.inl ⟨rfl,rfl⟩)⟩⟩
    ·rename_i hk
     rw [fB] at h1
     exact ⟨_,_,_,z1,h1,fun c=>⟨(h2 c).1,bj.range hg (h2 c).2 hk (.inr (.inl ⟨rfl,rfl⟩))⟩⟩
    ·rename_i hk
     rw [fB] at h1
     exact ⟨_,_,_,z1,h1,fun c=>⟨(h2 c).1,bj.range hg (h2 c).2 hk (.inr (.inr ⟨_,rfl,rfl⟩))⟩⟩
    ·cases h1
   ·cases h
  ·rename_i c' t1 s1 ex t2 s2 hg rest _
   exact ⟨ex,t2,s2,_,h,fun k=>⟨k.2,.any (k.1.1▸k.1.2.1▸k.1.2.2▸hg) _⟩⟩
  ·cases h
 |rd,.goto l,t,s,z,K,h=>by
  rw [dZ] at h
  split at h
  ·rename_i c' t1 s1 ex t2 s2 hg rest _
   exact ⟨ex,t2,s2,_,h,fun k=>⟨k.2,.any (k.1.1▸k.1.2.1▸k.1.2.2▸hg) _⟩⟩
  ·cases h
  all_goals (intros;rename_i q;cases q)
 |rd,.refuse y,t,s,z,K,h=>by
  rw [dZ] at h
  split at h
  ·rename_i c' t1 s1 ex t2 s2 hg rest _
   exact ⟨ex,t2,s2,_,h,fun k=>⟨k.2,.any (k.1.1▸k.1.2.1▸k.1.2.2▸hg) _⟩⟩
  ·cases h
  all_goals (intros;rename_i q;cases q)
def Bb (tmps:Array Value):ResultVar→Sem Value
  | .tmp t=>pure (tmps.getD t undef)
  | .cell a t=>do loadVar t (← asAddr (tmps.getD a undef))
theorem xQ (fn:Func) (tmps:Array Value):results fn tmps=(do
  let vs ← fn.results.mapM (Bb tmps)
  pure (if h:vs.size=1 then vs[0] else .tuple vs)):=by
 unfold results
 rfl
theorem xR {w0:de} {M:MM} {own:Nat→Option Nat} {w:World} {t:List D} {s:List Ob} {tmps:Array Value} (hw:bH w0 M own (bE s) w) (ht:bV M t tmps) {x:ResultVar} {d:D} (h:sy P t s x=some d):
  ∃v,bz M d v∧(Bb tmps x).run P w= .ok v w:=by
 cases x with
 |tmp i=>
  simp only [sy,VI] at h
  subst h
  exact ⟨_,gz ht i,by simp [Bb]⟩
 |cell a ty=>
  simp only [sy] at h
  split at h
  ·rename_i dyn id off hp
   split at h
   ·rename_i cs hb
    have hx:=gz ht a
    rw [hp] at hx
    generalize hv:tmps.getD a undef=v at hx
    cases hx with
    |ptr _ QW=>
     rename_i b'
     obtain ⟨b,vs,tt,k⟩:=hw.box id cs hb
     rw [k.box] at QW
     obtain rfl:=VA QW
     have PZ:∀j c,cs[j]? =some c→w.cell? ⟨b,0+j,none⟩=some (vs.getD j .nilFunc)∧bz M c (vs.getD j .nilFunc):=by
      intro j c hj
      obtain ⟨u,hu,hru⟩:=jM k.len k.rep hj
      rw [Array.getD_eq_getD_getElem?,hu]
      refine ⟨?_,hru⟩
      simp [World.cell?,k.cq,hu]
     have Vn:jG P ty cs off d:=by
      split at h
      ·rename_i e he
       split at h
       ·rename_i ha
        split at h
        ·rename_i hk
         simp only [VG,Wy] at hk
         exact ⟨e,he,.inl ⟨ha,hk.2,(VA h).symm⟩⟩
        ·cases h
       ·rename_i ha
        exact ⟨e,he,.inr ⟨ha,h⟩⟩
      ·cases h
     obtain ⟨u,h1,h2⟩:=gG Vn (fun j=>vs.getD j .nilFunc) PZ
     rw [V9] at h1
     refine ⟨u,h2,?_⟩
     simp only [Bb,hv,asAddr,VV,V1,Result.andThen_ok,h1]
   ·cases h
  ·cases h
theorem vk {w0:de} {M:MM} {own:Nat→Option Nat} {w:World} {t:List D} {s:List Ob} {tmps:Array Value} (hw:bH w0 M own (bE s) w) (ht:bV M t tmps):∀ {l:List ResultVar} {ds:List D},xU P t s l=some ds→
  ∃vs:List Value,ds.length=vs.length∧(∀(i:Nat) (d:D) (v:Value),ds[i]? =some d→vs[i]? =some v→bz M d v)∧Sem.run P (List.mapM (Bb tmps) l) w= .ok vs w
 | [],ds,h=>by
  simp only [xU,VI] at h
  subst h
  exact ⟨[],rfl,fun i d v h=>by simp at h,by simp⟩
 |x::l,ds,h=>by
  simp only [xU] at h
  split at h
  ·rename_i d TV hd hl
   obtain rfl:=VA h
   obtain ⟨v,h1,h2⟩:=xR hw ht hd
   obtain ⟨vs,k1,k2,k3⟩:=vk hw ht hl
   refine ⟨v::vs,by simp [k1],?_,?_⟩
   ·intro i d' v' a b
    cases i with
    |zero=>simp at a b;subst a b;exact h1
    |succ i=>simp at a b;exact k2 i d' v' a b
   ·rw [List.mapM_cons,VV,h2,Result.andThen_ok,VV,k3,Result.andThen_ok,V1]
  ·cases h
theorem vj {w0:de} {M:MM} {own:Nat→Option Nat} {w:World} {t:List D} {s:List Ob} {tmps:Array Value} {fn:Func} (hw:bH w0 M own (bE s) w) (ht:bV M t tmps) {ds:List D} (h:xU P t s fn.results.toList=some ds):
  ∃v,bz M (xV ds) v∧(results fn tmps).run P w= .ok v w:=by
 obtain ⟨vs,k1,k2,k3⟩:=vk hw ht h
 have e:(results fn tmps).run P w= .ok (if h:vs.length=1 then vs[0] else .tuple vs.toArray) w:=by
  have hr:fn.results=fn.results.toList.toArray:=by simp
  rw [xQ,hr,List.mapM_toArray,VV]
  rw [show (List.toArray<$>List.mapM (Bb tmps) fn.results.toList:Sem (Array Value)).run P w= .ok vs.toArray w by
   rw [map_eq_pure_bind,VV,k3];simp]
  simp
 refine ⟨_,?_,e⟩
 cases ds with
 |nil=>
  cases vs with
  |nil=>simp only [xV];exact .aQ rfl (fun i d v a=>by simp at a)
  |cons a b=>simp at k1
 |cons d ds=>
  cases ds with
  |nil=>
   cases vs with
   |nil=>simp at k1
   |cons a b=>
    cases b with
    |nil=>simp only [xV];exact k2 0 d a rfl rfl
    |cons b c=>simp at k1
  |cons d2 ds=>
   cases vs with
   |nil=>simp at k1
   |cons a b=>
    cases b with
    |nil=>simp at k1
    |cons b c=>simp only [xV];exact .aQ (by simpa using k1) (fun i d v p q=>k2 i d v p (by simpa using q))
theorem lu {fn:Func} {tmps:Array Value} {R:Ending→World→Prop} {w0:de} {own:Nat→Option Nat} {σ:Nat→Ob} :∀(bs:List Nat) {M:MM} {w:World},bH w0 M own σ w→bs.Nodup→(∀b∈bs,M.dE b)→
  (∀(f:Nat→Prop) (w2:World),(∀b,M.dE b→b∉bs→f b)→bH w0 { M with dE:=f } own σ w2→∃v,(results fn tmps).run P w2= .ok v w2∧R (.returned v) w2)→
  LeavesInM Fence.wide 0 P fn tmps R (bs.map fun b=> { target:= .collected b,args:= #[] }) .returning w
 | [],M,w,hw,_,_,h=>h M.dE w (fun _ hb _=>hb) hw
 |b::bs,M,w,hw,hn,hb,h=>by
  obtain ⟨S6,Sl⟩:=List.nodup_cons.1 hn
  refine ⟨fun e=>(by cases e),.inl ⟨b,_,rfl,run_takeDeferred (hw.dE b (hb b (by simp))).2,?_⟩⟩
  refine lu bs (hw.rf (hb b (by simp))) Sl (fun c hc=>⟨hb c (by simp [hc]),fun e=>S6 (e▸hc)⟩) fun f w2 hf QY=> ?_
  exact h f w2 (fun c hc hm=>hf c ⟨hc,fun e=>hm (by simp [e])⟩ (fun T4=>hm (by simp [T4]))) QY
theorem qx {inl:AJ P ρ'} (PJ:iC P inl) (hm:P.follows .mixedOrders=true) {f:FuncId} {fn:Func} (hf:P.funcs[f]? =some fn) (hn:(fn.name== "runtime.NumGoroutine")=false)
  {args:List D} {s:List Ob} {z:Z P} {K:D→List Ob→Z P→Option ρ'} (h:qz P inl fn args s z K=some r):∃d s' z',K d s' z'=some r∧(z'.c→z.c∧bW P f args s d s'):=by
 unfold qz at h
 split at h
 ·rename_i c hc
  obtain ⟨hle,h⟩:=bl h
  rw [er] at h
  obtain ⟨ex,t',s',z',h1,h2⟩:=dH (rd:=false) PJ hm c h
  have main:∀ {l},xU P t' s' fn.results.toList=some l→(∀i,ex≠ .exit i)→bj P false c (args++List.replicate (fn.ntmps - args.length) .undef) s ex t' s'→bW P f args s (xV l) s':=by
   intro l hl hex Pt
   refine ⟨⟨fn,c,hf,hc,hn⟩,Pt.len,?_⟩
   intro w0 M own w vs hw hu ha
   refine (callsIn_wide (n:=0)).1 (callsIn_of_wp_marks hf hc trivial (wpIn_mono (Pt.run none (fun _=>rfl) M.dE w0 M own w _ hw hu ?_ ⟨fun _ h=>h,[],rfl,List.nodup_nil,fun b hb=>by cases hb⟩) ?_))
   ·refine ha.append ⟨by simp [ha.1],fun i d v p q=> ?_⟩
    rw [List.getElem?_replicate] at p
    split at p
    ·obtain rfl:=VA p;exact .undef v
    ·cases p
   ·rintro e a' w' ⟨h0,M',Pc,q1,q2,q3,q4,_,bs,b1,b2,b3⟩
    have fin:LeavesInM Fence.wide 0 P fn a'.tmps (fun e w'=> ∃v M' Pc,e= .returned v∧bH w0 M' Pc (bE s') w'∧M'.upto s'.length∧M.Le M'∧bz M' (xV l) v) a'.defers .returning w':=by
     rw [b1]
     refine lu bs q1 b2 (fun b hb=>(b3 b hb).1) fun f w2 Tp QY=> ?_
     have q4':bV { M' with dE:=f } t' a'.tmps:=⟨q4.1,fun i d v p q=>(q4.2 i d v p q).J3⟩
     obtain ⟨v,r1,r2⟩:=vj QY q4' hl
     exact ⟨v,r2,v,_,Pc,rfl,QY,⟨q2.1,q2.2⟩,⟨q3.cell,q3.box,q3.br,fun b hb=>Tp b (q3.dE b hb) (fun hm=>(b3 b hm).2 hb)⟩,r1⟩
    cases ex with
    |exit i=>exact absurd rfl (hex i)
    |norm=>cases e<;>simp only [Ex.is] at h0;exact fin
    |ret=>cases e<;>simp only [Ex.is] at h0;exact fin
  split at h1
  ·cases h1
  ·rename_i hex
   split at h1
   ·rename_i l hl
    exact ⟨_,_,z',h1,fun c=>⟨(h2 c).1,main hl (fun i hi=>hex i hi) (h2 c).2⟩⟩
   ·cases h1
 ·cases h
theorem xl {inl:AJ P ρ'} (PJ:iC P inl) (hm:P.follows .mixedOrders=true) {id:Nat} {args:List D} {s:List Ob} {z:Z P} {K:D→List Ob→Z P→Option ρ'} (h:xm P inl id args s z K=some r):
  ∃d s' z',K d s' z'=some r∧(z'.c→z.c∧tg P id args s d s'):=by
 unfold xm at h
 split at h
 ·rename_i t ps ag bd hs
  obtain ⟨hle,h⟩:=bl h
  rw [VZ] at hle
  rw [er] at h
  obtain ⟨ex,t2,s2,z1,h1,h2⟩:=dH (rd:=true) PJ hm ag h
  split at h1
  ·split at h1
   ·rename_i t' TQ TN TP Q2
    rw [fB] at h1
    obtain ⟨ex2,t4,s4,z2,h3,h4⟩:=dH (rd:=true) PJ hm bd h1
    split at h3
    ·rename_i t5 R1 RW RU T5
     have main:∀(k:Lk) (j:Option Code),((ex2= .norm∧k= .ready∧j=none)∨(ex2= .ret∧k= .ret∧j=some .ret)∨∃i,ex2= .exit i∧k= .exit i∧j=some (.exit i))→
       bj P true ag (jr t (ps.toList.zip args)) s .norm t2 s2→bj P true bd t2 (s2.set id (.lp .busy t' TQ TN TP)) ex2 t4 s4→tg P id args s (.bool j.isNone) (s4.set id (.lp k t5 R1 RW RU)):=by
      intro k j Ul So Rr
      have RF:=Rr.len
      rw [Vv] at RF
      refine ⟨by rw [Vv];exact WG So.len RF,?_⟩
      intro w0 M own w vs l hw hu ha hb
      obtain ⟨l',rc,q⟩:=hw.lp id _ _ _ _ _ hs
      obtain rfl:l'=l:=by have:=q.box;rw [hb] at this;exact (VA this).symm
      have Po:vs.size=rc.params.size:=by rw [← ha.1,hle,q.ps]
      refine ⟨_,_,_,_,run_yield q.cq Po,?_⟩
      have htm:bV M (jr t (ps.toList.zip args)) ((rc.params.zip vs).foldl (fun tmps (x:Nat×Value)=>tmps.setIfInBounds x.1 x.2) rc.tmps):=by
       have:=bV.jr (ps:=ps.toList) (args:=args) (vs:=vs.toList) q.tm (by rw [ha.1];simp) (fun i d v p u=>ha.2 i d v p (by simpa using u))
       rw [q.ps,← Array.foldl_toList,Array.toList_zip]
       exact this
      refine roundIn_of_wpIn (F:=Fence.wide) (n:=0) trivial ?_
      rw [q.ag,q.bd]
      refine wpIn_mono (So.run (some l') (fun e=>by cases e) M.dE w0 M own w _ hw hu htm ⟨fun _ h=>h,[],rfl,List.nodup_nil,fun b hb=>by cases hb⟩) ?_
      rintro e a1 w1 ⟨h0,M1,own1,q1,q2,q3,q4,q5⟩
      cases e<;>simp only [Ex.is] at h0
      obtain ⟨l1,rc1,p1⟩:=q1.lp id _ _ _ _ _ Q2
      obtain rfl:l1=l':=by have:=p1.box;rw [q3.box _ _ hb] at this;exact (VA this).symm
      have QV:=cH (s:=s2) (i:=id) (by rw [Q2];simp)
      have QY:=q1.C1 (k':= .busy) (r':= { rc1 with state:= .busy }) p1 (.lp .busy t' TQ TN TP) (.inr ⟨rfl,rfl,fun e=>absurd rfl e,rfl,rfl,rfl,rfl⟩)
      rw [← jq QV] at QY
      refine ⟨_,run_beginRound p1.cq p1.st,?_⟩
      refine wpIn_mono (Rr.run (some l1) (fun e=>by cases e) M.dE w0 M1 own1 _ a1 QY (by rw [Vv];exact q2) q4 q5) ?_
      rintro e2 a2 w3 ⟨R4,M2,Qy,u1,u2,u3,u4,u5⟩
      obtain ⟨l2,rc2,p2⟩:=u1.lp id _ _ _ _ _ T5
      obtain rfl:l2=l1:=by have:=p2.box;rw [u3.box _ _ (q3.box _ _ hb)] at this;exact (VA this).symm
      have UJ:=cH (s:=s4) (i:=id) (by rw [T5];simp)
      have Tb:=u1.C1 (k':=k) (r':= { rc2 with state:=if j.isNone then .ready else .done,pending:=j }) p2 (.lp k t5 R1 RW RU) (.inr ⟨rfl,by
       rcases Ul with ⟨_,rfl,rfl⟩|⟨_,rfl,rfl⟩|⟨i,_,rfl,rfl⟩<;>rfl,fun _=>by
       rcases Ul with ⟨_,rfl,rfl⟩|⟨_,rfl,rfl⟩|⟨i,_,rfl,rfl⟩<;>rfl,rfl,rfl,rfl,rfl⟩)
      rw [← jq UJ] at Tb
      have fin:∃v w',(Instr.endRound l2 j).run P w3= .ok v w'∧∃v' M' Pc,Ending.returned v= .returned v'∧bH w0 M' Pc (bE (s4.set id (.lp k t5 R1 RW RU))) w'∧M'.upto (s4.set id (.lp k t5 R1 RW RU)).length∧M.Le M'∧bz M' (.bool j.isNone) v':=
       ⟨_,_,run_endRound j p2.cq,_,M2,Qy,rfl,Tb,by rw [Vv];exact u2,q3.trans u3,.bool _⟩
      rcases Ul with ⟨rfl,rfl,rfl⟩|⟨rfl,rfl,rfl⟩|⟨i,rfl,rfl,rfl⟩
      ·cases e2<;>simp only [Ex.is] at R4
       exact fin
      ·cases e2<;>simp only [Ex.is] at R4
       exact fin
      ·cases e2<;>simp only [Ex.is] at R4
       subst R4
       exact fin
     split at h3
     ·rw [fB] at h3
      exact ⟨_,_,z2,h3,fun c=>⟨(h2 (h4 c).1).1,main .ready none (.inl ⟨rfl,rfl,rfl⟩) (h2 (h4 c).1).2 (h4 c).2⟩⟩
     ·rw [fB] at h3
      exact ⟨_,_,z2,h3,fun c=>⟨(h2 (h4 c).1).1,main .ret (some .ret) (.inr (.inl ⟨rfl,rfl,rfl⟩)) (h2 (h4 c).1).2 (h4 c).2⟩⟩
     ·rename_i i
      rw [fB] at h3
      exact ⟨_,_,z2,h3,fun c=>⟨(h2 (h4 c).1).1,main (.exit i) (some (.exit i)) (.inr (.inr ⟨i,rfl,rfl,rfl⟩)) (h2 (h4 c).1).2 (h4 c).2⟩⟩
    ·cases h3
   ·cases h1
  ·cases h1
 ·cases h
theorem fW (hm:P.follows .mixedOrders=true):∀n:Nat,iC P (og (ρ:=ρ') P n)
 |0=>fun g args s z K r h=>by simp [og] at h
 |n+1=>fun g args s z K r h=>by
  rw [og] at h
  simp only [] at h
  cases g with
  |fn f=>
   simp only [] at h
   split at h
   ·rename_i fn hf
    obtain ⟨hn,h⟩:=bl h
    exact qx (fW hm n) hm hf (by simpa using hn) h
   ·cases h
  |yl id=>
   simp only [] at h
   exact xl (fW hm n) hm h
end
section
variable {P:Program}
theorem my {M:MM} {s:List Ob} {d:D} {v:Value} (h:bz M d v) (hc:d.clean=true):bz (ek M.cell) (gW s d) v:=by
 unfold gW
 split
 ·rename_i id ver sz xs
  have h1:=h.lQ hc
  have:∀o:jn,(o= .no∨∃k,o= .fresh k)→bz (ek M.cell) (.aq o sz xs) v:=by
   intro o ho
   cases h1 with
   |aq b off vs hl Ph ha Po Rf hr Pr _=>exact .aq b off vs hl Ph ha Po Rf hr Pr (by rcases ho with rfl|⟨k,rfl⟩<;>trivial)
  split
  ·split
   ·exact this _ (.inr ⟨_,rfl⟩)
   ·exact this _ (.inl rfl)
  ·exact this _ (.inl rfl)
 ·exact h.lQ hc
theorem ta {d:D} {sz Py:Nat} {xs:List D} :d.aG≠ .aq (.fresh sz) Py xs:=by
 intro h
 cases d<;>simp only [D.aG,reduceCtorEq] at h
 case aq o _ _=>cases o<;>simp [jn.aG] at h
theorem kg {w0:de} (hX:∀b,¬w0.X b→w0.w.heap.size≤b) {M:MM} {own:Nat→Option Nat} {w:World} {s:List Ob} (hw:bH w0 M own (bE s) w) {d:D} {v:Value} (h:bz M d v) {sz Py:Nat} {xs:List D} (e:gW s d= .aq (.fresh sz) Py xs):
  ∃a len cap,v= .slice a len cap∧Py=sz∧gC w0.w.heap.size w M.cell sz a len cap:=by
 unfold gW at e
 split at e
 ·rename_i id ver UC UR
  split at e
  ·rename_i v' P4 hs
   split at e
   ·rename_i hb
    simp only [VG,VZ] at hb
    obtain ⟨rfl,rfl⟩:=hb
    simp only [D.aq.injEq,jn.fresh.injEq] at e
    obtain ⟨rfl,rfl,rfl⟩:=e
    obtain ⟨a,len,cap,k⟩:=hw.bg id ver UC hs
    cases h with
    |aq b off vs hl Ph ha Po Rf hr Pr ho=>
     have:M.br id ver=some _:=ho
     rw [k.br] at this
     obtain ⟨rfl,rfl,rfl⟩:=Value.slice.inj (VA this)
     refine ⟨_,_,_,rfl,rfl,?_⟩
     rcases k.room with q|⟨b,vs,ty,fz,q,r⟩
     ·exact .inl q
     ·exact .inr ⟨b,vs,ty,fz,q,hX _ r.base,r.cq,r.fz,r.cap,r.none⟩
   ·cases e
  ·cases e
 ·exact absurd e ta
theorem Dh {w0:de} (hX:∀b,¬w0.X b→w0.w.heap.size≤b) {M:MM} {own:Nat→Option Nat} {w:World} {s:List Ob} (hw:bH w0 M own (bE s) w) {d:D} {v:Value} (h:bz M d v) (hc:d.clean=true):bz (ek M.cell) (Bi s d) v∧zJ w0.w.heap.size w M.cell (Bi s d) v:=by
 by_cases ht:∃ds,d= .aQ ds
 ·obtain ⟨ds,rfl⟩:=ht
  cases h with
  |aQ hl r=>
   rename_i vs
   rw [D.clean,D.gB,V3] at hc
   refine ⟨.aQ (by simpa using hl) ?_,?_,?_⟩
   ·intro i d v a b
    rw [VW,VU] at a
    obtain ⟨d0,h0,rfl⟩:=a
    exact my (r i d0 v h0 b) (hc _ (V5 h0))
   ·intro sz Py xs e;simp [Bi] at e
   ·intro TV vs' e1 e2 i sz Py xs hi
    simp only [Bi,D.aQ.injEq] at e1
    obtain rfl:=Value.tuple.inj e2
    subst e1
    rw [VW,VU] at hi
    obtain ⟨d0,h0,e⟩:=hi
    have Pd:i<vs.size:=by
     rw [← hl]
     rcases VS i ds.length with q|q
     ·exact q
     ·rw [VO q] at h0;cases h0
    obtain ⟨a,len,cap,k1,k2,k3⟩:=kg hX hw (r i d0 vs[i] h0 (by simp [Pd])) e
    exact ⟨a,len,cap,by simp [Pd,k1],k2,k3⟩
 ·have e:Bi s d=gW s d:=by
   cases d<;>first|rfl|exact absurd ⟨_,rfl⟩ ht
  rw [e]
  refine ⟨my h hc,fun sz Py xs q=>kg hX hw h q,fun ds vs q=> ?_⟩
  exfalso
  unfold gW at q
  split at q
  ·split at q
   ·split at q<;>cases q
   ·cases q
  ·cases d<;>simp only [D.aG,reduceCtorEq] at q
   exact ht ⟨_,rfl⟩
theorem aJ.ao (hm:P.follows .mixedOrders=true) {f:FuncId} {fn:Func} (hf:P.funcs[f]? =some fn) (hn:(fn.name== "runtime.NumGoroutine")=false) {args:List D} {d:D} (o:List (Ev P))
  (h:s8 P fn args o=some (d,nB o True)):aJ P f args d:=by
 unfold s8 at h
 obtain ⟨d0,s',z',h1,h2⟩:=qx (fW hm 20) hm hf hn h
 obtain ⟨hc,h1⟩:=bl h1
 split at h1
 ·simp only [VI,WB] at h1
  obtain ⟨rfl,hz⟩:=h1
  have Pt:=(h2 (by rw [hz];exact iG o trivial)).2
  refine ⟨Pt.CF,fun w C vs hC ha=>Calls.mono (Pt.run ⟨w,C,fun k=>k<w.heap.size⟩ (ek C) (fun _=>none) w vs ?_ ⟨fun _ _=>rfl,fun _ _ _=>rfl⟩ ha) ?_⟩
  ·refine ⟨.of _,hC,?_,?_,?_,?_,?_,?_,fun b hb=>hb.elim⟩
   ·intro b o v k _;exact k
   ·intro b i k;cases k
   ·intro i cs k;simp [bE] at k
   ·intro i v sz k;simp [bE] at k
   ·intro i F q;simp [bE,Ob.BA] at q
   ·intro i k t ps ag bd q;simp [bE] at q
  ·rintro e w' ⟨v,M',Pc,rfl,q1,q2,q3,q4⟩
   obtain ⟨r1,r2⟩:=Dh (fun _ h=>Nat.le_of_not_lt h) q1 q4 hc
   exact ⟨v,M'.cell,rfl,⟨q1.below.below,q3.cell,q1.gq,q1.cells⟩,r1,r2⟩
 ·cases h1
theorem aJ.cast {f:FuncId} {args St:List D} {d d':D} (h:aJ P f args d) (ha:args=St) (hd:d=d'):aJ P f St d':=ha▸hd▸h
theorem iZ.ao (hm:P.follows .mixedOrders=true) {c:Code} {t:List D} {s:List Ob} {ex:Ex} {t':List D} {s':List Ob} (o:List (Ev P))
  (h:evalCode P c t s o=some ((ex,t',s'),nB o True)):iZ P c t s ex t' s':=by
 unfold evalCode at h
 obtain ⟨TJ,t1,s1,z',h1,h2⟩:=dH (rd:=true) (fW hm 20) hm c h
 split at h1
 ·simp only [VI,WB] at h1
  obtain ⟨⟨rfl,rfl,rfl⟩,hz⟩:=h1
  exact (h2 (by rw [hz];exact iG o trivial)).2
 ·cases h1
structure ak (P:Program) (c:Code) (sp:HS) (n0:Nat) (t:List D) (s:List Ob) (ex:Ex) (t':List D) (s':List Ob):Prop where
  run:∃t1 s1,iZ P c t s ex t1 s1∧lB sp n0 t1 s1=some (t',s')∧oo sp t1 s1
theorem ak.ao (hm:P.follows .mixedOrders=true) {c:Code} {sp:HS} {n0:Nat} {t:List D} {s:List Ob} {ex:Ex} {t':List D} {s':List Ob} (o:List (Ev P))
  (h:qs P c sp n0 t s o=some ((ex,t',s'),nB o True)):ak P c sp n0 t s ex t' s':=by
 unfold qs at h
 obtain ⟨TJ,t1,s1,z',h1,h2⟩:=dH (rd:=true) (fW hm 20) hm c h
 split at h1
 ·rename_i t2 s2 hh
  obtain ⟨z2,h3,h4⟩:=lJ h1
  split at h3
  ·simp only [VI,WB] at h3
   obtain ⟨⟨rfl,rfl,rfl⟩,hz⟩:=h3
   have Ql:=h4 (by rw [hz];exact iG o trivial)
   exact ⟨t1,s1,(h2 Ql.1).2,hh,Ql.2⟩
  ·cases h3
 ·cases h1
theorem aA.bZ {c:Code} {sp:HS} {n0:Nat} {t t2:List D} {s s2:List Ob} {ex:Ex} {t':List D} {s':List Ob} (h:ak P c sp n0 t s .norm t2 s2) (k:aA P c n0 t2 s2 ex t' s'):aA P c n0 t s ex t' s':=
 let ⟨_,_,h1,h2,h3⟩:=h.run
 .again sp h1 h2 h3 k
theorem aA.last {c:Code} {sp:HS} {n0:Nat} {t:List D} {s:List Ob} {ex:Ex} {t':List D} {s':List Ob} (h:ak P c sp n0 t s ex t' s') (hx:ex≠ .norm):aA P c n0 t s ex t' s':=
 let ⟨_,_,h1,h2,h3⟩:=h.run
 .out sp h1 hx h2 h3
def mM (bO:List Nat):Nat→List Ob→List Ob
  |_,[]=> []
  |i,o::r=>(match gn i bO with|true=>o|false=> .dead)::mM bO (i+1) r
def wF (P:Program) (g:FuncId) (args:List D) (s:List Ob) (bO:List Nat) (o:List (Ev P)):Option ((D×List Ob)×Prop):=
  og P 20 (.fn g) args s ⟨o,True⟩ fun d s' z=>match z.o with| []=>some ((d,mM bO 0 s'),z.c)|_=>none
theorem mg (bO:List Nat):∀(s:List Ob) (i:Nat),(mM bO i s).length=s.length
 | [],_=>rfl
 |o::r,i=>by simp [mM,mg bO r]
theorem wH (bO:List Nat):∀(s:List Ob) (i k:Nat),(mM bO i s).getD k .dead=s.getD k .dead∨(mM bO i s).getD k .dead= .dead
 | [],_,_=> .inl rfl
 |o::r,i,0=>by
  simp only [mM,List.getD_cons_zero]
  split
  ·exact .inl rfl
  ·exact .inr rfl
 |o::r,i,k+1=>by simp only [mM,List.getD_cons_succ];exact wH bO r (i+1) k
theorem bH.sub {w0:de} {M:MM} {own:Nat→Option Nat} {σ σ':Nat→Ob} {w:World} (h:bH w0 M own σ w) (hs:∀i,σ' i=σ i∨σ' i= .dead):bH w0 M own σ' w:=by
 have Tc:∀ {i:Nat} {o:Ob},σ' i=o→o≠ .dead→σ i=o:=fun {i o} e hn=>by
  rcases hs i with q|q
  ·rw [← q];exact e
  ·exact absurd (e▸q:o= .dead) hn
 exact ⟨h.below,h.cells,h.gq,h.owned,fun i cs e=>h.box i cs (Tc e (by simp)),fun i v sz e=>h.bg i v sz (Tc e (by simp)),(fun i F e=>(hs i).elim (fun q=>h.mp i F (by rw [← q];exact e)) (fun q=>by rw [q] at e;cases e)),
  fun i k t ps ag bd e=>h.lp i k t ps ag bd (Tc e (by simp)),h.dE⟩
theorem bW.ao (hm:P.follows .mixedOrders=true) {g:FuncId} {args:List D} {s:List Ob} {d:D} {s':List Ob} {bO:List Nat} (o:List (Ev P))
  (h:wF P g args s bO o=some ((d,s'),nB o True)):bW P g args s d s':=by
 unfold wF at h
 obtain ⟨d1,s1,z',h1,h2⟩:=fW hm 20 (.fn g) args s _ _ _ h
 split at h1
 ·simp only [VI,WB] at h1
  obtain ⟨⟨rfl,rfl⟩,hz⟩:=h1
  have Pt:bW P g args s d1 s1:=(h2 (by rw [hz];exact iG o trivial)).2
  refine ⟨Pt.CF,by rw [mg];exact Pt.len,fun w0 M own w vs hw hu ha=>Calls.mono (Pt.run w0 M own w vs hw hu ha) ?_⟩
  rintro e w' ⟨v,M',Pc,rfl,q1,q2,q3,q4⟩
  exact ⟨v,M',Pc,rfl,q1.sub (fun i=>wH bO s1 0 i),by rw [mg];exact q2,q3,q4⟩
 ·cases h1
theorem bW.cast {g:FuncId} {args:List D} {s:List Ob} {d d':D} {s1 s2:List Ob} (h:bW P g args s d s1) (h1:d=d') (h2:s1=s2):bW P g args s d' s2:=h1▸h2▸h
end
variable {P:Program}
def Kl (s:List Ob) (id sz n:Nat):Option D:=match s.getD id .dead with
  | .box cs=>match Nat.beq cs.length (n*sz)&&cs.all D.clean&&cs.all (fun c=>storable c.aG) with
    |true=>some (.aq .no sz (rows sz n (cs.map D.aG)))
    |false=>none
  |_=>none
def Ko (P:Program) (fn:Func) (args:List D) (o:List (Ev P)):Option (D×Prop):=
  qz P (og P 20) fn args [] ⟨o,True⟩ fun d s z=>match d with
    | .aQ (.bP id sz n::r)=>match Kl s id sz n with
      |some x=>fj (r.all D.clean) (match z.o with| []=>some (.aQ (x::r.map D.aG),z.c)|_=>none)
      |none=>none
    |_=>none
def Kn (P:Program) (fn:Func) (args:List D) (o:List (Ev P)):Option ((D×List Ob)×Prop):=
  qz P (og P 20) fn args [] ⟨o,True⟩ fun d s z=>match z.o with| []=>some ((d,s),z.c)|_=>none
def OC (s:List Ob) (d:D):Option D:=match d with
  | .aQ (.bP id sz n::r)=>match Kl s id sz n with
    |some x=>some (.aQ (x::r.map D.aG))
    |none=>none
  |_=>none
end Go.Ev
