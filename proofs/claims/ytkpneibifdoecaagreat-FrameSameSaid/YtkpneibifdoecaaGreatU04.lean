import Derived.LoopN
import Derived.LoopNIn
import Derived.Scope
import Derived.RangeFuncRecord
import Derived.Test.YtkpneibifdoecaaGreatU02
import Derived.Test.YtkpneibifdoecaaGreatU03
open List renaming length_append→Vd,length_set→Vj,getD_eq_getElem?_getD→Vr,getElem?_eq_none→Vw,getElem?_map→VC,all_eq_true→VP,mem_of_getElem? →VQ,length_singleton→VX,mem_cons→V6,getElem?_cons_succ→V8,getElem?_cons_zero→Wd
open Bool renaming and_eq_true→Vi,not_eq_true'→Vm,or_eq_true→Vp
open Option.some renaming inj→Vk,injEq→Vs
open Nat renaming le_refl→Vq,lt_or_ge→VA,beq_eq→VJ,zero_add→VT,ble_eq→Wg,le_trans→Wo,blt_eq→Wp,ble→Wr
open Option renaming map_eq_some_iff→Vz,bind_some→Wz
open Go.Sem renaming run_bind→VD,run_pure→VK
open Prod.mk renaming injEq→Wk
/- Contracts and plain laws that a statement's proof leans on (texts merged:EvQ,EvP). -/
set_option linter.unusedVariables false
set_option linter.unusedSimpArgs false
namespace Go.Ev
open Go Go.RowKit
theorem jq {i:Nat} :∀ {l:List Nat},gW i l=true↔i∈l
 | []=>by simp [gW]
 |a::r=>by
  unfold gW
  split
  ·rename_i h;rw [VJ] at h;subst h;simp
  ·rename_i h
   rw [jq]
   have:a≠i:=fun e=>by subst e;simp at h
   simp [Ne.symm this]
theorem MM.mJ {M M':MM} (h:M.Le M') (n:Nat):(M.cut n).Le (M'.cut n):=by
 refine ⟨h.cell,fun i b k=> ?_,fun i v b k=> ?_,h.dW⟩
 ·simp only [MM.cut] at k ⊢
  split at k
  ·rename_i q;rw [if_pos q];exact h.box _ _ k
  ·cases k
 ·simp only [MM.cut] at k ⊢
  split at k
  ·rename_i q;rw [if_pos q];exact h.bl _ _ _ k
  ·cases k
theorem MM.tE {M:MM} {n:Nat} :((M.cut n).cut n)=M.cut n:=by
 unfold MM.cut
 congr 1
 ·funext i;by_cases h:i<n<;>simp [h]
 ·funext i v;by_cases h:i<n<;>simp [h]
theorem MM.HK {M:MM} {n:Nat} (h:M.upto n):M.Le (M.cut n):=by
 refine ⟨fun _ _ _ h=>h,fun i b k=> ?_,fun i v b k=> ?_,fun _ h=>h⟩
 ·simp only [MM.cut]
  split
  ·exact k
  ·rw [h.1 i (by omega)] at k;cases k
 ·simp only [MM.cut]
  split
  ·exact k
  ·rw [h.2 i v (by omega)] at k;cases k
theorem iy (n:Nat):∀l:List D,j2 n l=l.all (lS n)
 | []=>by simp [j2]
 |d::r=>by simp [j2,iy n r]
theorem bo.cut {M:MM} {d:D} {v:Value} (h:bo M d v):∀ {n:Nat},lS n d=true→bo (M.cut n) d v:=by
 induction h with
 |undef v=>exact fun _=> .undef v
 |int k n=>exact fun _=> .int k n
 |bool b=>exact fun _=> .bool b
 |str s=>exact fun _=> .str s
 |fL=>exact fun _=> .fL
 |ptr q h=>intro n c;simp only [lS,Wp] at c;exact .ptr q (by simp only [MM.cut,c,if_true];exact h)
 |cT q vs hx hc hr ih=>intro n c;exact .cT q vs hx hc hr
 |bp h=>intro n c;simp only [lS,Wp] at c;exact .bp (by simp only [MM.cut,c,if_true];exact h)
 |jx h=>intro n c;simp only [lS,Wp] at c;exact .jx (by simp only [MM.cut,c,if_true];exact h)
 |bR h hh hc=>intro n c;simp only [lS,Wp] at c;exact .bR (by simp only [MM.cut,c,if_true];exact h) (by simp only [MM.cut,c,if_true];exact hh) hc
 |sub h hc hp ho=>intro n c;simp only [lS,Wp] at c;exact .sub (by simp only [MM.cut,c,if_true];exact h) hc hp ho
 |aj b off vs hl OL ha OT hc hr OQ ho ih=>
  intro n c
  refine .aj b off vs hl OL ha OT hc hr OQ ?_
  rename_i M o _ _ _ _ _
  cases o with
  |tok t v=>simp only [lS,Wp] at c;simp only [MM.lM,MM.cut,c,if_true];exact ho
  |no=>trivial
  |fresh k=>trivial
  |tight=>exact ho
 |av=>exact fun _=> .av
 |fn h1 h2 r1 r2 i1 i2=>
  intro n c
  rw [lS,iy,iy,Vi,VP,VP] at c
  exact .fn h1 h2 (fun i d v a b=>i1 i d v a b (c.1 _ (VQ a))) (fun i d v a b=>i2 i d v a b (c.2 _ (VQ a)))
 |agg h r ih=>
  intro n c
  rw [lS,iy,VP] at c
  exact .agg h (fun i d v a b=>ih i d v a b (c _ (VQ a)))
 |aM h r ih=>
  intro n c
  rw [lS,iy,VP] at c
  exact .aM h (fun i d v a b=>ih i d v a b (c _ (VQ a)))
theorem ni {s:List Ob} {size id:Nat} {d d':D} {o:Option Nat} {ob:Ob} (h:pT s size id d=some (d',o,ob)):
  (∃fl sz xs,d= .aj fl sz xs∧d'= .aj (.tok id 0) size xs∧ob= .bz 0 size∧(sz=size∨xs= [])∧((fl= .tight∧o=none)∨∃i v,fl= .tok i v∧o=some i∧s.getD i .dead= .bz v size))∨
  (∃i n cs,d= .bR i size n∧d'= .bR id size n∧o=some i∧s.getD i .dead= .box cs∧ob= .box (cs.map D.aJ)):=by
 unfold pT at h
 split at h
 ·rename_i sz xs
  split at h
  ·rename_i hk
   simp only [Vs,Wk] at h
   obtain ⟨rfl,rfl,rfl⟩:=h
   simp only [oq,Vp,VJ,List.isEmpty_iff] at hk
   exact .inl ⟨_,sz,xs,rfl,rfl,rfl,hk,.inl ⟨rfl,rfl⟩⟩
  ·cases h
 ·rename_i i v sz xs
  split at h
  ·rename_i v' PC hs
   split at h
   ·rename_i hk
    simp only [Vs,Wk] at h
    obtain ⟨rfl,rfl,rfl⟩:=h
    simp only [oq,Vp,Vi,VJ,List.isEmpty_iff] at hk
    obtain ⟨rfl,rfl,hk⟩:=hk
    exact .inl ⟨_,sz,xs,rfl,rfl,rfl,hk,.inr ⟨i,v',rfl,rfl,hs⟩⟩
   ·cases h
  ·cases h
 ·rename_i i sz n
  split at h
  ·rename_i cs hs
   split at h
   ·rename_i hk
    rw [VJ] at hk
    subst hk
    simp only [Vs,Wk] at h
    obtain ⟨rfl,rfl,rfl⟩:=h
    exact .inr ⟨i,n,cs,rfl,rfl,rfl,hs,rfl⟩
   ·cases h
  ·cases h
 ·cases h
theorem ru {t:List D} {s:List Ob} :∀ {fs:List (Nat×Nat)} {id:Nat} {used:List (Option Nat)} {new:List Ob},vQ t s fs id=some (used,new)→
  (used.length=fs.length∧new.length=fs.length)∧∀(j k size:Nat),fs[j]? =some (k,size)→∃d' o ob,pT s size (id+j) (gA t s k)=some (d',o,ob)∧used[j]? =some o∧new[j]? =some ob
 | [],id,used,new,h=>by
  simp only [vQ,Vs,Wk] at h
  obtain ⟨rfl,rfl⟩:=h
  exact ⟨⟨rfl,rfl⟩,fun j k size h=>by simp at h⟩
 |(k,size)::r,id,used,new,h=>by
  simp only [vQ] at h
  split at h
  ·rename_i d' o ob l Hq h1 h2
   simp only [Vs,Wk] at h
   obtain ⟨rfl,rfl⟩:=h
   obtain ⟨k1,k2⟩:=ru h2
   refine ⟨by simp [k1.1,k1.2],fun j k' SV hj=> ?_⟩
   cases j with
   |zero=>
    simp only [Wd,Vs,Wk] at hj
    obtain ⟨rfl,rfl⟩:=hj
    exact ⟨d',o,ob,h1,rfl,rfl⟩
   |succ j=>
    simp only [V8] at hj
    obtain ⟨d2,o2,ob2,q1,q2,q3⟩:=k2 j k' SV hj
    exact ⟨d2,o2,ob2,by rw [show id+(j+1)=id+1+j by omega];exact q1,by simpa using q2,by simpa using q3⟩
  ·cases h
theorem nB {i:Nat} :∀ {fs:List (Nat×Nat)} {id Qq size:Nat},findF i fs id=some (Qq,size)→∃j,Qq=id+j∧fs[j]? =some (i,size)
 | [],id,Qq,size,h=>by simp [findF] at h
 |(k,sz)::r,id,Qq,size,h=>by
  simp only [findF] at h
  split at h
  ·rename_i hk
   rw [VJ] at hk
   simp only [Vs,Wk] at h
   obtain ⟨rfl,rfl⟩:=h
   exact ⟨0,rfl,by simp [hk]⟩
  ·obtain ⟨j,h1,h2⟩:=nB h
   exact ⟨j+1,by omega,by simpa using h2⟩
theorem BQ {i:Nat} {fs:List (Nat×Nat)} {n0 id size:Nat} (h:D8 i fs n0=some (id,size)):i<dj∧findF i fs n0=some (id,size):=by
 unfold D8 at h
 split at h
 ·cases h
 ·rename_i hb
  refine ⟨?_,h⟩
  rcases VA i dj with q|q
  ·exact q
  ·rw [Nat.ble_eq_true_of_le q] at hb;cases hb
theorem BR {i j:Nat} {fs:List (Nat×Nat)} {n0 id size:Nat} (h:z9 i j fs n0=some (id,size)):j<1000∧findF (dj+i*1000+j) fs n0=some (id,size):=by
 unfold z9 at h
 split at h
 ·rename_i hb
  exact ⟨by rw [Wp] at hb;exact hb,h⟩
 ·cases h
theorem o7 {sp:HS} {n0:Nat} {s:List Ob} :∀ {t:List D} {i:Nat} {t':List D},o8 sp n0 s i t=some t'→
  t'.length=t.length∧∀k d d',t[k]? =some d→t'[k]? =some d'→CC sp n0 s (i+k) d=some d'
 | [],i,t',h=>by
  simp only [o8,Vs] at h
  subst h
  exact ⟨rfl,fun k d d' h=>by simp at h⟩
 |d::r,i,t',h=>by
  simp only [o8] at h
  split at h
  ·rename_i d1 l h1 h2
   obtain rfl:=Vk h
   obtain ⟨k1,k2⟩:=o7 h2
   refine ⟨by simp [k1],fun k d2 d3 a b=> ?_⟩
   cases k with
   |zero=>simp at a b;subst a b;exact h1
   |succ k=>
    simp at a b
    rw [show i+(k+1)=i+1+k by omega]
    exact k2 k d2 d3 a b
  ·cases h
theorem qe {sp:HS} {n0:Nat} {s:List Ob} {i:Nat} :∀ {cs:List D} {j:Nat} {Ph:List D},nE sp n0 s i j cs=some Ph→
  Ph.length=cs.length∧∀(k:Nat) (d d':D),cs[k]? =some d→Ph[k]? =some d'→(∃id size o ob,z9 i (j+k) sp.ll n0=some (id,size)∧pT s size id d=some (d',o,ob))∨(lS n0 d=true∧d'=d)
 | [],j,Ph,h=>by
  simp only [nE,Vs] at h
  subst h
  exact ⟨rfl,fun k d d' h=>by simp at h⟩
 |a::r,j,Ph,h=>by
  rw [nE] at h
  split at h
  ·rename_i d1 l h1 h2
   obtain rfl:=Vk h
   obtain ⟨k1,k2⟩:=qe h2
   refine ⟨by simp [k1],fun k d d' p q=> ?_⟩
   cases k with
   |zero=>
    simp at p q
    subst p q
    split at h1
    ·rename_i id size hf
     split at h1
     ·rename_i d2 o hg
      obtain rfl:=Vk h1
      exact .inl ⟨id,size,o.1,o.2,hf,hg⟩
     ·cases h1
    ·split at h1
     ·rename_i PW
      exact .inr ⟨PW,(Vk h1).symm⟩
     ·cases h1
   |succ k=>
    simp at p q
    rw [show j+(k+1)=j+1+k by omega]
    exact k2 k d d' p q
  ·cases h
theorem vw {sp:HS} {n0:Nat} {s0:List Ob} {used:List (Option Nat)} {new:List Ob} :∀ {n i:Nat} {s s':List Ob},AV sp n0 s0 used new n i s=some s'→
  ∃l,s'=l++new∧l.length=n∧∀k o,l[k]? =some o→∃o0,s[k]? =some o0∧Kf sp n0 s0 used (i+k) o0=some o
 |0,i,s,s',h=>by
  simp only [AV,Vs] at h
  exact ⟨[],by simp [h],rfl,fun k o h=>by simp at h⟩
 |n+1,i,[],s',h=>by simp [AV] at h
 |n+1,i,o::r,s',h=>by
  simp only [AV] at h
  split at h
  ·rename_i o' l h1 h2
   obtain rfl:=Vk h
   obtain ⟨l',rfl,k2,k3⟩:=vw h2
   refine ⟨o'::l',rfl,by simp [k2],fun k o2 hk=> ?_⟩
   cases k with
   |zero=>simp at hk;subst hk;exact ⟨o,rfl,h1⟩
   |succ k=>
    simp at hk
    obtain ⟨o0,q1,q2⟩:=k3 k o2 hk
    exact ⟨o0,by simpa using q1,by rw [show i+(k+1)=i+1+k by omega];exact q2⟩
  ·cases h
theorem mE {i:Nat} :∀ {l:List (Option Nat)},qF i l=true↔some i∈l
 | []=>by simp [qF]
 |none::r=>by simp [qF,mE]
 |some a::r=>by
  unfold qF
  split
  ·rename_i h;rw [VJ] at h;subst h;simp
  ·rename_i h
   rw [mE]
   have:a≠i:=fun e=>by subst e;simp at h
   simp [Ne.symm this]
def jD (i:Nat):List (Option Nat)→Nat→Option Nat
  | [],_=>none
  |none::r,id=>jD i r (id+1)
  |some a::r,id=>if a=i then some id else jD i r (id+1)
theorem fZ {i:Nat} :∀ {l:List (Option Nat)} {id:Nat},some i∉l→jD i l id=none
 | [],id,_=>rfl
 |none::r,id,h=>by simp only [jD];exact fZ (by simpa using h)
 |some a::r,id,h=>by
  simp only [V6,Vs,not_or] at h
  simp only [jD,if_neg (Ne.symm h.1)]
  exact fZ h.2
theorem kO {i:Nat} :∀ {l:List (Option Nat)} {id j:Nat},rI l=true→l[j]? =some (some i)→jD i l id=some (id+j)
 | [],id,j,_,h=>by simp at h
 |none::r,id,j,hd,h=>by
  simp only [rI] at hd
  simp only [jD]
  cases j with
  |zero=>simp at h
  |succ j=>rw [show id+(j+1)=id+1+j by omega];exact kO hd (by simpa using h)
 |some a::r,id,j,hd,h=>by
  simp only [rI,Vi,Vm] at hd
  simp only [jD]
  cases j with
  |zero=>simp at h;simp [h]
  |succ j=>
   have hm:some i∈r:=VQ (by simpa using h)
   have:a≠i:=fun e=>by subst e;rw [mE.2 hm] at hd;simp at hd
   rw [if_neg this,show id+(j+1)=id+1+j by omega]
   exact kO hd.2 (by simpa using h)
def pQ (sp:HS) (t:List D) (s:List Ob):Prop:= ∀cs∈ta sp t s,∀c∈cs,c.clean=true
theorem lT {s:List Ob} {i:Nat} {cs:List D} (h:s.getD i .dead= .box cs):∀ {l:List Nat},gW (dj+i) l=true→cs∈nh s l
 | [],h1=>by simp [gW] at h1
 |o::r,h1=>by
  rw [jq] at h1
  rcases V6.1 h1 with e|e
  ·rw [nh,← e,show Wr dj (dj+i)=true by rw [Wg];omega]
   simp only []
   rw [show dj+i - dj=i by omega,Ag,h]
   simp
  ·rw [nh]
   split
   ·exact List.mem_append_right _ (lT h (jq.2 e))
   ·exact lT h (jq.2 e)
theorem pS {t:List D} {s:List Ob} {k size i sz n:Nat} {cs:List D} (hr:gA t s k= .bR i sz n) (h:s.getD i .dead= .box cs):∀ {l:List (Nat×Nat)} {j:Nat},l[j]? =some (k,size)→cs∈td t s l
 | [],j,h1=>by simp at h1
 |(k',z)::r,j,h1=>by
  rw [td]
  cases j with
  |zero=>
   simp only [Wd,Vs,Wk] at h1
   obtain ⟨rfl,rfl⟩:=h1
   rw [hr]
   simp only [Ag,h]
   simp
  |succ j=>exact List.mem_append_right _ (pS hr h (by simpa using h1))
theorem pR {t:List D} {i:Nat} {cs:List D} (h:t.getD i .undef= .agg cs):∀ {l:List Nat},gW (dj+i) l=true→cs∈tc t l
 | [],q=>by cases q
 |o::r,q=>by
  rw [tc]
  rcases V6.1 (jq.1 q) with e|e
  ·rw [← e,show Wr dj (dj+i)=true by rw [Wg];omega,show dj+i - dj=i by omega,h]
   simp
  ·exact List.mem_append_right _ (pR h (jq.2 e))
theorem oC {sp:HS} {n0:Nat} {s:List Ob} {used:List (Option Nat)} {i:Nat} {o0 o:Ob} (h:Kf sp n0 s used i o0=some o) (hd:o≠ .dead):some i∉used∧
  ((∃cs,o0= .box cs∧o= .box (cs.map D.aJ)∧gW (dj+i) sp.Hq=true)∨(∃cs,o0= .box cs∧o= .box cs∧j2 n0 cs=true)∨(∃cs Ph,o0= .box cs∧o= .box Ph∧nE sp n0 s i 0 cs=some Ph)∨
   (∃k t ps ag bd,o0= .lp k t ps ag bd∧o= .lp k t ps ag bd∧j2 n0 t=true)∨(o=o0∧(∀cs,o≠ .box cs)∧∀k t ps ag bd,o≠ .lp k t ps ag bd)):=by
 have nu:∀ {b:Bool},(b&& !qF i used)=true→some i∉used:=fun {b} hk hm=>by
  simp only [Vi,Vm] at hk
  rw [mE.2 hm] at hk
  simp at hk
 unfold Kf at h
 split at h
 ·rename_i hk
  refine ⟨nu hk,?_⟩
  split at h
  ·rename_i cs
   simp only [Vi] at hk
   exact .inl ⟨cs,rfl,(Vk h).symm,hk.1⟩
  ·cases h
 ·split at h
  ·exact absurd (Vk h).symm hd
  ·rename_i hk
   refine ⟨nu hk,?_⟩
   split at h
   ·rename_i cs
    split at h
    ·rename_i Ph hc
     exact .inr (.inr (.inl ⟨cs,Ph,rfl,(Vk h).symm,hc⟩))
    ·cases h
   ·rename_i k t ps ag bd
    split at h
    ·rename_i PW
     exact .inr (.inr (.inr (.inl ⟨k,t,ps,ag,bd,rfl,(Vk h).symm,PW⟩)))
    ·cases h
   ·rename_i h1 h2
    obtain rfl:=Vk h
    exact .inr (.inr (.inr (.inr ⟨rfl,h1,h2⟩)))
theorem ng {sp:HS} {n0:Nat} {t t':List D} {s s':List Ob} (h:mD sp n0 t s=some (t',s')) (Px:pQ sp t s):
  (n0≤s'.length∧s'.length=n0+sp.ll.length)∧∀ {w0:dm} {M:MM} {own:Nat→Option Nat} {w:World} {tmps:Array Value},n0≤s.length→bu w0 M own (bq s) w→M.upto s.length→bT M t tmps→
   ∃M' OH,bu w0 M' OH (bq s') w∧M'.upto s'.length∧(M.cut n0).Le M'∧bT M' t' tmps:=by
 unfold mD at h
 split at h
 ·rename_i used new hu
  split at h
  ·rename_i Si
   split at h
   ·rename_i t1 s1 ht hs
    simp only [Vs,Wk] at h
    obtain ⟨rfl,rfl⟩:=h
    obtain ⟨l,rfl,hl,SH⟩:=vw hs
    obtain ⟨ht1,Rb⟩:=o7 ht
    obtain ⟨⟨UH,hu2⟩,hgrow⟩:=ru hu
    have hlen:(l++new).length=n0+sp.ll.length:=by simp [hl,hu2]
    refine ⟨⟨by omega,hlen⟩,?_⟩
    intro w0 M own w tmps hn hw PB OP
    let rv:Nat→Value:=fun k=>match Wr dj k with
     |false=>tmps.getD k undef
     |true=>match M.box ((k - dj) / 1000) with
      |some b=>(w.cell? ⟨b,(k - dj)%1000,none⟩).getD undef
      |none=>undef
    have SK:∀k,gA t s k≠ .undef→bo M (gA t s k) (rv k):=by
     intro k O0
     cases hb:Wr dj k with
     |false=>
      simp only [gA,rv,hb]
      exact ic OP k
     |true=>
      simp only [gA,rv,hb] at O0 ⊢
      split at O0
      ·rename_i cs OJ
       obtain ⟨b,vs,ty,kb⟩:=hw.box _ cs OJ
       have hc:∃d,cs[(k - dj)%1000]? =some d:=by
        cases e:cs[(k - dj)%1000]? with
        |none=>rw [Vr,e] at O0;exact absurd rfl O0
        |some d=>exact ⟨d,rfl⟩
       obtain ⟨d,hd⟩:=hc
       obtain ⟨u,h1,h2⟩:=kM kb.len kb.rep hd
       rw [kb.box,Vr,hd]
       simp only [World.cell?,kb.cq,h1]
       exact h2
      ·exact absurd rfl O0
    let bxN:Nat→Option Nat:=fun j=>match sp.ll[j]? with
     |some (k,_)=>(match gA t s k with| .bR i _ _=>M.box i|_=>none)
     |none=>none
    let hdr:Nat→Nat→Option Value:=fun j v=>match sp.ll[j]? with
     |some (k,size)=>(match gA t s k with| .bR _ _ _=>(if v=size then some (rv k) else none)|_=>(if v=0 then some (rv k) else none))
     |none=>none
    let M':MM:=⟨M.cell,fun i=>if i<n0 then M.box i else bxN (i - n0),fun i v=>if i<n0 then M.bl i v else hdr (i - n0) v,M.dW⟩
    let ren:Nat→Option Nat:=fun i=>match jD i used n0 with|some k=>some k|none=>if i<n0 then some i else none
    let OH:Nat→Option Nat:=fun b=>(own b).bind ren
    have hle:(M.cut n0).Le M':=by
     refine ⟨fun _ _ _ h=>h,fun i b k=> ?_,fun i v b k=> ?_,fun _ h=>h⟩
     ·simp only [MM.cut] at k
      split at k
      ·rename_i q;simp only [M',if_pos q];exact k
      ·cases k
     ·simp only [MM.cut] at k
      split at k
      ·rename_i q;simp only [M',if_pos q];exact k
      ·cases k
    have root:∀(j k size:Nat),sp.ll[j]? =some (k,size)→
      (∃fl sz xs a len cap o,gA t s k= .aj fl sz xs∧rv k= .slice a len cap∧used[j]? =some o∧new[j]? =some (.bz 0 size)∧(sz=size∨xs= [])∧bo M (.aj fl sz xs) (.slice a len cap)∧((fl= .tight∧o=none)∨∃i v,fl= .tok i v∧o=some i∧s.getD i .dead= .bz v size))∨
      (∃i n cs b cap,gA t s k= .bR i size n∧rv k= .slice (some ⟨b,0,none⟩) n cap∧used[j]? =some (some i)∧new[j]? =some (.box (cs.map D.aJ))∧s.getD i .dead= .box cs∧M.box i=some b∧M.bl i size=some (.slice (some ⟨b,0,none⟩) n cap)∧n≤cap∧∀c∈cs,c.clean=true):=by
     intro j k size hj
     obtain ⟨d',o,ob,h1,h2,h3⟩:=hgrow j k size hj
     rcases ni h1 with ⟨fl,sz,xs,q1,q2,rfl,q3,q4⟩|⟨i,n,cs,q1,q2,rfl,q3,rfl⟩
     ·have hr:=SK k (by rw [q1];simp)
      rw [q1] at hr
      generalize hv:rv k=v at hr
      cases hr with
      |aj b off vs hl OL ha OT hc hr OQ ho=>
       exact .inl ⟨fl,sz,xs,_,_,_,o,q1,rfl,h2,h3,q3,.aj b off vs hl OL ha OT hc hr OQ ho,q4⟩
     ·have hr:=SK k (by rw [q1];simp)
      rw [q1] at hr
      generalize hv:rv k=v at hr
      cases hr with
      |bR hb hh hc=>
       exact .inr ⟨i,n,cs,_,_,q1,rfl,h2,h3,q3,hb,hh,hc,Px cs (List.mem_append_right _ (List.mem_append_left _ (pS q1 q3 hj)))⟩
    have newAt:∀ {i:Nat} {o:Ob},bq (l++new) i=o→o≠ .dead→(i<n0∧l[i]? =some o)∨(n0≤i∧∃k size,sp.ll[i - n0]? =some (k,size)∧new[i - n0]? =some o):=by
     intro i o hi O0
     unfold bq at hi
     rcases VA i l.length with OK|hge
     ·rw [Vr,List.getElem?_append_left OK] at hi
      rw [List.getElem?_eq_getElem OK] at hi ⊢
      exact .inl ⟨by omega,by simpa using hi⟩
     ·rw [Vr,List.getElem?_append_right hge] at hi
      rw [hl] at hi hge
      cases e:new[i - n0]? with
      |none=>rw [e] at hi;exact absurd hi.symm O0
      |some x=>
       rw [e] at hi
       simp only [Option.getD_some] at hi
       subst hi
       have OK:i - n0<sp.ll.length:=by
        rw [← hu2]
        rcases VA (i - n0) new.length with q|q
        ·exact q
        ·rw [Vw q] at e;cases e
       exact .inr ⟨hge,sp.ll[i - n0].1,sp.ll[i - n0].2,by simp [OK],rfl⟩
    have g7:∀ {i:Nat} {o0:Ob},s[i]? =some o0→bq s i=o0:=fun {i o0} h1=>by unfold bq;rw [Vr,h1];rfl
    have RD:∀ {j k size:Nat} {fl:j9} {sz:Nat} {xs:List D},sp.ll[j]? =some (k,size)→gA t s k= .aj fl sz xs→bo M (.aj fl sz xs) (rv k)→(sz=size∨xs= [])→bo M' (.aj (.tok (n0+j) 0) size xs) (rv k):=by
     intro j k size fl sz xs hj q1 hr q3
     refine bo.resize (sz:=sz) ?_ q3
     generalize hv:rv k=v at hr
     cases hr with
     |aj b off vs RT OL ha OT hc hr OQ ho=>
      refine .aj b off vs RT OL ha OT hc hr OQ ?_
      simp only [MM.lM,M',if_neg (show ¬n0+j<n0 by omega),hdr,show n0+j - n0=j by omega,hj,q1,if_true,hv]
    have RE:∀ {j k size i n b cap:Nat},sp.ll[j]? =some (k,size)→gA t s k= .bR i size n→rv k= .slice (some ⟨b,0,none⟩) n cap→M.box i=some b→n≤cap→bo M' (.bR (n0+j) size n) (rv k):=by
     intro j k size i n b cap hj q1 hv hb hc
     rw [hv]
     refine .bR (b:=b) ?_ ?_ hc
     ·simp only [M',if_neg (show ¬n0+j<n0 by omega),bxN,show n0+j - n0=j by omega,hj,q1];exact hb
     ·simp only [M',if_neg (show ¬n0+j<n0 by omega),hdr,show n0+j - n0=j by omega,hj,q1,if_true,hv]
    refine ⟨M',OH,⟨hw.below,hw.cells,hw.g7,?_,?_,?_,?_,?_,hw.dW⟩,?_,hle,?_⟩
    ·intro b i k
     simp only [OH] at k
     cases e:own b with
     |none=>rw [e] at k;cases k
     |some i'=>exact hw.owned b i' e
    ·
     intro i cs hi
     rcases newAt hi (by simp) with ⟨OK,hli⟩|⟨hge,k,size,hj,Pe⟩
     ·obtain ⟨o0,h1,h2⟩:=SH i _ hli
      rw [VT] at h2
      obtain ⟨hnu,Pp⟩:=oC h2 (by simp)
      have kept:∀ {QR:List D},o0= .box QR→cs.length=QR.length→(∀(b:Nat) (vs:Array Value) (ty:TypeId),oh w0 M own i QR w b vs ty→∀(j:Nat) (d:D) (v:Value),cs[j]? =some d→vs[j]? =some v→bo M' d v)→∃b vs ty,oh w0 M' OH i cs w b vs ty:=by
       intro QR e TZ PJ
       subst e
       obtain ⟨b,vs,ty,k⟩:=hw.box i QR (g7 h1)
       refine ⟨b,vs,ty,by simp only [M',if_pos OK];exact k.box,k.base,?_,k.none,k.cq,by rw [TZ];exact k.len,PJ b vs ty k,fun sz a len cap q=>k.room sz a len cap (by simpa only [M',if_pos OK] using q)⟩
       simp only [OH,k.own,Wz,ren,fZ hnu,if_pos OK]
      rcases Pp with ⟨QR,rfl,e,hm⟩|⟨QR,rfl,e,PW⟩|⟨QR,Ph,rfl,e,hc⟩|⟨_,_,_,_,_,_,e,_⟩|⟨rfl,UG,_⟩
      ·obtain rfl:=Ob.box.inj e
       have Sp:=Px QR (List.mem_append_left _ (lT (g7 h1) hm))
       refine kept rfl (by simp) fun b vs ty k j d v p q=> ?_
       rw [VC,Vz] at p
       obtain ⟨d0,p0,rfl⟩:=p
       exact ((k.rep j d0 v p0 q).mS (Sp _ (VQ p0))).mono (MM.jR M')
      ·obtain rfl:=Ob.box.inj e
       rw [iy,VP] at PW
       exact kept rfl rfl fun b vs ty k j d v p q=>((k.rep j d v p q).cut (PW _ (VQ p))).mono hle
      ·obtain rfl:=Ob.box.inj e
       obtain ⟨c1,c2⟩:=qe hc
       refine kept rfl c1 fun b vs ty k j d v p q=> ?_
       have hj0:j<QR.length:=by
        rw [← c1]
        rcases VA j cs.length with h|h
        ·exact h
        ·rw [Vw h] at p;cases p
       have TI:QR[j]? =some QR[j]:=by simp [hj0]
       rcases c2 j _ d TI p with ⟨id,size,o,ob,hf,hg⟩|⟨PW,rfl⟩
       ·rw [VT] at hf
        obtain ⟨hj1,hf⟩:=BR hf
        obtain ⟨jj,rfl,hjj⟩:=nB hf
        obtain ⟨d2,o2,ob2,SE,hu3,hn3⟩:=hgrow jj _ size hjj
        have e1:(dj+i*1000+j - dj) / 1000=i:=by omega
        have e2:(dj+i*1000+j - dj)%1000=j:=by omega
        have TB:Wr dj (dj+i*1000+j)=true:=by rw [Wg];omega
        have PY:gA t s (dj+i*1000+j)=QR[j]:=by
         simp only [gA,TB,e1,e2]
         rw [show s.getD i .dead= .box QR from g7 h1]
         simp only []
         rw [Vr,TI]
         rfl
        have Pa:rv (dj+i*1000+j)=v:=by
         simp only [rv,TB,e1,e2]
         rw [k.box]
         simp only [World.cell?,k.cq,q]
         rfl
        rcases ni hg with ⟨fl,sz,xs,q1,rfl,_,q3,_⟩|⟨i',n,Ph,q1,rfl,_,q3,_⟩
        ·have hr:=RD hjj (PY.trans q1) (by rw [Pa,← q1];exact k.rep j _ v TI q) q3
         rw [Pa] at hr
         exact hr
        ·rcases root jj _ size hjj with ⟨_,_,_,_,_,_,_,r1,_⟩|⟨i2,n2,QF,b2,cap2,r1,r2,_,_,_,r3,_,r4,_⟩
         ·rw [PY,q1] at r1;cases r1
         ·rw [PY,q1] at r1
          cases r1
          have hr:=RE hjj (PY.trans q1) r2 r3 r4
          rw [Pa] at hr
          exact hr
       ·exact ((k.rep j _ v TI q).cut PW).mono hle
      ·cases e
      ·exact absurd rfl (UG cs)
     ·rcases root _ k size hj with ⟨_,_,_,_,_,_,_,_,_,_,r,_⟩|⟨i',n,QR,b,cap,q1,q2,q3,q4,q5,q6,q7,q8,q9⟩
      ·rw [Pe] at r;cases r
      ·rw [Pe] at q4
       obtain rfl:=Ob.box.inj (Vk q4)
       obtain ⟨b2,vs,ty,kb⟩:=hw.box i' QR q5
       obtain rfl:b2=b:=by have:=kb.box;rw [q6] at this;exact (Vk this).symm
       have UX:¬i<n0:=by omega
       refine ⟨b2,vs,ty,?_,kb.base,?_,kb.none,kb.cq,by simpa using kb.len,fun j d v p q=> ?_,fun sz a len O7 q=> ?_⟩
       ·simp only [M',if_neg UX,bxN,hj,q1];exact q6
       ·simp only [OH,kb.own,Wz,ren,kO Si q3]
        congr 1
        omega
       ·rw [VC,Vz] at p
        obtain ⟨d0,p0,rfl⟩:=p
        exact ((kb.rep j d0 v p0 q).mS (q9 _ (VQ p0))).mono (MM.jR M')
       ·simp only [M',if_neg UX,hdr,hj,q1] at q
        split at q
        ·rename_i e
         subst e
         rw [q2] at q
         obtain ⟨rfl,rfl,rfl⟩:=Value.slice.inj (Vk q)
         exact kb.room _ _ _ _ q7
        ·cases q
    ·
     intro i ver sz hi
     rcases newAt hi (by simp) with ⟨OK,hli⟩|⟨hge,k,size,hj,Pe⟩
     ·obtain ⟨o0,h1,h2⟩:=SH i _ hli
      rw [VT] at h2
      obtain ⟨hnu,Pp⟩:=oC h2 (by simp)
      have ho:o0= .bz ver sz:=by
       rcases Pp with ⟨_,_,e,_⟩|⟨_,_,e,_⟩|⟨_,_,_,e,_⟩|⟨_,_,_,_,_,_,e,_⟩|⟨rfl,_⟩
       ·cases e
       ·cases e
       ·cases e
       ·cases e
       ·rfl
      subst ho
      obtain ⟨a,len,cap,k⟩:=hw.bz i ver sz (g7 h1)
      refine ⟨a,len,cap,by simp only [M',if_pos OK];exact k.bl,fun v hv=>by simp only [M',if_pos OK];exact k.last v hv,?_⟩
      rcases k.room with q|⟨b,vs,ty,fz,ha,r⟩
      ·exact .inl q
      ·refine .inr ⟨b,vs,ty,fz,ha,r.base,?_,r.cq,r.fz,r.cap,r.none⟩
       simp only [OH,r.own,Wz,ren,fZ hnu,if_pos OK]
     ·have S3:¬i<n0:=by omega
      rcases root _ k size hj with ⟨fl,UC,xs,a,len,cap,o,q1,q2,q3,q4,q5,q6,q7⟩|⟨_,_,_,_,_,_,_,_,r,_⟩
      ·rw [Pe] at q4
       obtain ⟨rfl,rfl⟩:=Ob.bz.inj (Vk q4)
       refine ⟨a,len,cap,?_,fun v hv=> ?_,?_⟩
       ·simp only [M',if_neg S3,hdr,hj,q1,if_true,q2]
       ·simp only [M',if_neg S3,hdr,hj,q1,if_neg (show ¬v=0 by omega)]
       ·cases q6 with
        |aj b off vs RT OL ha OT hc hr OQ ho=>
         rcases q7 with ⟨rfl,rfl⟩|⟨i',v,rfl,rfl,RO⟩
         ·exact .inl ho
         ·obtain ⟨a',OO,O7,k2⟩:=hw.bz i' v _ RO
          have:M.bl i' v=some _:=ho
          rw [k2.bl] at this
          obtain ⟨rfl,rfl,rfl⟩:=Value.slice.inj (Vk this)
          rcases k2.room with q|⟨b,vs,ty,fz,ha,r⟩
          ·exact .inl q
          ·refine .inr ⟨b,vs,ty,fz,ha,r.base,?_,r.cq,r.fz,r.cap,r.none⟩
           simp only [OH,r.own,Wz,ren,kO Si q3]
           congr 1
           omega
      ·rw [Pe] at r;cases r
    ·
     intro i F hi
     obtain ⟨o,Tl⟩:∃o,bq (l++new) i=o:=⟨_,rfl⟩
     rw [Tl] at hi
     have nb:∀cs,o≠ .box cs:=fun cs e=>by rw [e] at hi;cases hi
     have nd:o≠ .dead:=fun e=>by rw [e] at hi;cases hi
     have nf:∀v sz,o≠ .bz v sz:=fun v sz e=>by rw [e] at hi;cases hi
     have nl:∀k t ps ag bd,o≠ .lp k t ps ag bd:=fun k t ps ag bd e=>by rw [e] at hi;cases hi
     rcases newAt Tl nd with ⟨OK,hli⟩|⟨hge,k,size,hj,Pe⟩
     ·obtain ⟨o0,h1,h2⟩:=SH i _ hli
      rw [VT] at h2
      obtain ⟨hnu,Pp⟩:=oC h2 nd
      have ho:o0=o:=by
       rcases Pp with ⟨_,_,e,_⟩|⟨_,_,e,_⟩|⟨_,_,_,e,_⟩|⟨_,_,_,_,_,_,e,_⟩|⟨rfl,_⟩
       ·exact absurd e (nb _)
       ·exact absurd e (nb _)
       ·exact absurd e (nb _)
       ·exact absurd e (nl _ _ _ _ _)
       ·rfl
      subst ho
      obtain ⟨b,OI,clock,k⟩:=hw.mp i F (by rw [g7 h1];exact hi)
      refine ⟨b,OI,clock,by simp only [M',if_pos OK];exact k.box,k.base,?_,k.none,k.cq,k.fits⟩
      simp only [OH,k.own,Wz,ren,fZ hnu,if_pos OK]
     ·rcases root _ k size hj with ⟨_,_,_,_,_,_,_,_,_,_,r,_⟩|⟨_,_,_,_,_,_,_,_,r,_⟩<;>rw [Pe] at r<;>obtain rfl:=Vk r
      ·exact absurd rfl (nf _ _)
      ·exact absurd rfl (nb _)
    ·
     intro i kk tt ps ag bd hi
     rcases newAt hi (by simp) with ⟨OK,hli⟩|⟨hge,k,size,hj,Pe⟩
     ·obtain ⟨o0,h1,h2⟩:=SH i _ hli
      rw [VT] at h2
      obtain ⟨hnu,Pp⟩:=oC h2 (by simp)
      have ho:o0= .lp kk tt ps ag bd∧j2 n0 tt=true:=by
       rcases Pp with ⟨_,_,e,_⟩|⟨_,_,e,_⟩|⟨_,_,_,e,_⟩|⟨_,_,_,_,_,rfl,e,PW⟩|⟨_,_,RL⟩
       ·cases e
       ·cases e
       ·cases e
       ·cases e;exact ⟨rfl,PW⟩
       ·exact absurd rfl (RL _ _ _ _ _)
      obtain ⟨rfl,PW⟩:=ho
      rw [iy,VP] at PW
      obtain ⟨b,r,k⟩:=hw.lp i kk tt ps ag bd (g7 h1)
      refine ⟨b,r,by simp only [M',if_pos OK];exact k.box,k.base,?_,k.cq,k.st,k.pd,⟨k.tm.1,fun j d v p q=>((k.tm.2 j d v p q).cut (PW _ (VQ p))).mono hle⟩,k.ps,k.ag,k.bd⟩
      simp only [OH,k.own,Wz,ren,fZ hnu,if_pos OK]
     ·rcases root _ k size hj with ⟨_,_,_,_,_,_,_,_,_,_,r,_⟩|⟨_,_,_,_,_,_,_,_,r,_⟩<;>rw [Pe] at r<;>cases r
    ·
     refine ⟨fun id O8=> ?_,fun id v O8=> ?_⟩
     ·simp only [M',if_neg (show ¬id<n0 by omega),bxN]
      rw [Vw (by omega)]
     ·simp only [M',if_neg (show ¬id<n0 by omega),hdr]
      rw [Vw (by omega)]
    ·
     refine ⟨by rw [ht1];exact OP.1,fun i d' v p q=> ?_⟩
     have z5:i<t.length:=by
      rcases VA i t.length with h|h
      ·exact h
      ·rw [Vw (by omega)] at p;cases p
     have hd:t[i]? =some t[i]:=by simp [z5]
     have Qw:=Rb i _ d' hd p
     rw [VT] at Qw
     unfold CC at Qw
     split at Qw
     ·rename_i id size hf
      split at Qw
      ·rename_i d2 o hg
       obtain rfl:=Vk Qw
       obtain ⟨hbi,hf⟩:=BQ hf
       obtain ⟨j,rfl,hj⟩:=nB hf
       ·have UI:Wr dj i=false:=by
         cases e:Wr dj i with
         |false=>rfl
         |true=>rw [Wg] at e;omega
        have PY:gA t s i=t[i]:=by
         simp only [gA,UI]
         rw [Vr,hd]
         rfl
        have Pa:rv i=v:=by
         simp only [rv,UI]
         rw [Array.getD_eq_getD_getElem?,q]
         rfl
        rcases ni hg with ⟨fl,sz,xs,q1,rfl,_,q3,_⟩|⟨i',n,Ph,q1,rfl,_,q3,_⟩
        ·have hr:=RD hj (PY.trans q1) (by rw [Pa,← q1];exact OP.2 i _ v hd q) q3
         rw [Pa] at hr
         exact hr
        ·rcases root j _ size hj with ⟨_,_,_,_,_,_,_,r1,_⟩|⟨i2,n2,QF,b2,cap2,r1,r2,_,_,_,r3,_,r4,_⟩
         ·rw [PY,q1] at r1;cases r1
         ·rw [PY,q1] at r1
          cases r1
          have hr:=RE hj (PY.trans q1) r2 r3 r4
          rw [Pa] at hr
          exact hr
      ·cases Qw
     ·split at Qw
      ·split at Qw
       ·rename_i PW
        obtain rfl:=Vk Qw
        exact ((OP.2 i _ v hd q).cut PW).mono hle
       ·cases Qw
      ·split at Qw
       ·rename_i hm
        split at Qw
        ·rename_i cs OJ
         obtain rfl:=Vk Qw
         have OJ:t[i]= .agg cs:=OJ
         have hc:=Px cs (List.mem_append_right _ (List.mem_append_right _ (pR (by rw [Vr,hd];exact OJ) hm)))
         have hr:=(OP.2 i _ v hd q)
         rw [OJ] at hr
         have hb:=hr.mS (by rw [D.clean,D.ij,VP];exact hc)
         rw [D.aJ,D.eP] at hb
         exact hb.mono (MM.jR M')
        ·cases Qw
       ·obtain rfl:=Vk Qw
        exact .undef v
   ·cases h
  ·cases h
 ·cases h
section
variable {P:Program}
inductive aF (P:Program) (c:Code) (n0:Nat):List D→List Ob→Ex→List D→List Ob→Prop
  |out {t:List D} {s:List Ob} {ex:Ex} {t1 t':List D} {s1 s':List Ob} (sp:HS) (h:jW P c t s ex t1 s1) (hx:ex≠ .norm) (hh:mD sp n0 t1 s1=some (t',s')) (Px:pQ sp t1 s1):aF P c n0 t s ex t' s'
  |again {t:List D} {s:List Ob} {t1 t2:List D} {s1 s2:List Ob} {ex:Ex} {t':List D} {s':List Ob} (sp:HS) (h:jW P c t s .norm t1 s1) (hh:mD sp n0 t1 s1=some (t2,s2)) (Px:pQ sp t1 s1) (k:aF P c n0 t2 s2 ex t' s'):aF P c n0 t s ex t' s'
theorem aF.depth {c:Code} {n0:Nat} {t:List D} {s:List Ob} {ex:Ex} {t':List D} {s':List Ob} (h:aF P c n0 t s ex t' s'):n0≤s.length→n0≤s'.length∧
  ∃n,∀(rr:Option Nat) (K:Nat→Prop) (w0:dm) (M:MM) (own:Nat→Option Nat) (w:World) (a:Act) (L:MM),L.Le (M.cut n0)→bu w0 M own (bq s) w→M.upto s.length→bT M t a.tmps→fI K M a.defers→
   Code.roundsIn (FW rr) 0 P c (fun e a' w'=>ex.is e∧∃M' OH,bu w0 M' OH (bq s') w'∧M'.upto s'.length∧L.Le M'∧bT M' t' a'.tmps∧fI K M' a'.defers) n a w:=by
 induction h with
 |out sp h hx hh Px=>
  intro hn
  obtain ⟨hl,hhead⟩:=ng hh Px
  refine ⟨hl.1,1,fun rr K w0 M own w a L le hw hu ht hd=> ?_⟩
  rw [roundsIn_succ]
  refine wpIn_mono (h.run rr (fun e=>by cases e) K w0 M own w a hw hu ht hd) ?_
  rintro e a' w' ⟨h0,M1,own1,q1,q2,q3,q4,q5⟩
  obtain ⟨M2,P6,r1,r2,r3,r4⟩:=hhead (Wo hn h.len) q1 q2 q4
  have fin:∃M' OH,bu w0 M' OH (bq _) w'∧M'.upto _∧L.Le M'∧bT M' _ a'.tmps∧fI K M' a'.defers:=⟨M2,P6,r1,r2,(le.trans (MM.mJ q3 n0)).trans r3,r4,q5.mono r3.dW⟩
  rename_i ex _ _ _ _
  cases ex with
  |norm=>exact absurd rfl hx
  |exit i=>cases e<;>simp only [Ex.is] at h0;exact ⟨h0,fin⟩
  |ret=>cases e<;>simp only [Ex.is] at h0;exact ⟨h0,fin⟩
 |again sp h hh Px k ih=>
  intro hn
  obtain ⟨hl,hhead⟩:=ng hh Px
  obtain ⟨i1,n,i2⟩:=ih hl.1
  refine ⟨i1,n+1,fun rr K w0 M own w a L le hw hu ht hd=> ?_⟩
  rw [roundsIn_succ]
  refine wpIn_mono (h.run rr (fun e=>by cases e) K w0 M own w a hw hu ht hd) ?_
  rintro e a' w' ⟨h0,M1,own1,q1,q2,q3,q4,q5⟩
  obtain ⟨M2,P6,r1,r2,r3,r4⟩:=hhead (Wo hn h.len) q1 q2 q4
  cases e<;>simp only [Ex.is] at h0
  refine i2 rr K w0 M2 P6 w' a' L ?_ r1 r2 r4 (q5.mono r3.dW)
  have:=MM.mJ r3 n0
  rw [MM.tE] at this
  exact (le.trans (MM.mJ q3 n0)).trans this
theorem aU.bA {c:Code} {n0:Nat} {t:List D} {s:List Ob} {ex:Ex} {t':List D} {s':List Ob} (hn:n0≤s.length) (h:aF P c n0 t s ex t' s'):aU P n0 (.loop c) t s ex t' s':=by
 obtain ⟨h1,n,h2⟩:=h.depth hn
 exact ⟨fun rr K w0 M own w a hw hu ht hd=>wpIn_loop_rounds n (h2 rr K w0 M own w a (M.cut n0) (.refl _) hw hu ht hd),h1⟩
theorem mK {ρ':Type} {r:ρ'} :∀ {l:List (List D)} {z:Z P} {k:Z P→Option ρ'},Cd l z k=some r→∃z',k z'=some r∧(z'.c→z.c∧∀cs∈l,∀c∈cs,c.clean=true)
 | [],z,k,h=>⟨z,h,fun q=>⟨q,fun _ h=>by simp at h⟩⟩
 |cs::l,z,k,h=>by
  rw [Cd] at h
  split at h
  ·rename_i Ph hc o _
   obtain ⟨z',h1,h2⟩:=mK h
   refine ⟨z',h1,fun q=>⟨(h2 q).1.2,fun x hx=> ?_⟩⟩
   rcases V6.1 hx with rfl|hx
   ·exact (h2 q).1.1▸hc
   ·exact (h2 q).2 x hx
  ·cases h
theorem bc.zH {rd:Bool} {c:Code} {sp:HS} {t t1:List D} {s s1:List Ob} {ex:Ex} {t2:List D} {s2:List Ob} (h:aU P s.length c t1 s1 ex t2 s2) (hh:mD sp s.length t s=some (t1,s1)) (Px:pQ sp t s):bc P rd c t s ex t2 s2:=by
 obtain ⟨hl,hhead⟩:=ng hh Px
 refine ⟨fun rr _ K w0 M own w a hw hu ht hd=> ?_,h.len⟩
 obtain ⟨M2,P6,r1,r2,r3,r4⟩:=hhead (Vq _) hw hu ht
 refine wpIn_mono (h.run rr K w0 M2 P6 w a r1 r2 r4 (hd.mono r3.dW)) ?_
 rintro e a' w' ⟨h0,M',OH,q1,q2,q3,q4,q5⟩
 have:=MM.mJ r3 s.length
 rw [MM.tE] at this
 exact ⟨h0,M',OH,q1,q2,((MM.HK hu).trans this).trans q3,q4,q5⟩
inductive jV (P:Program) (rd:Bool) (c:Code):List D→List Ob→Ex→List D→List Ob→Prop
  |out {t:List D} {s:List Ob} {ex:Ex} {t1:List D} {s1:List Ob} (h:bc P rd c t s ex t1 s1) (hx:ex≠ .norm):jV P rd c t s ex t1 s1
  |again {t:List D} {s:List Ob} {t1:List D} {s1:List Ob} {ex:Ex} {t':List D} {s':List Ob} (h:bc P rd c t s .norm t1 s1) (k:jV P rd c t1 s1 ex t' s'):jV P rd c t s ex t' s'
theorem jV.depth {rd:Bool} {c:Code} {t:List D} {s:List Ob} {ex:Ex} {t':List D} {s':List Ob} (h:jV P rd c t s ex t' s'):s.length≤s'.length∧
  ∃n,∀(rr:Option Nat) (_:rd=false→rr=none) (K:Nat→Prop) (w0:dm) (M:MM) (own:Nat→Option Nat) (w:World) (a:Act) (L:MM),L.Le M→bu w0 M own (bq s) w→M.upto s.length→bT M t a.tmps→fI K M a.defers→
   Code.roundsIn (FW rr) 0 P c (fun e a' w'=>ex.is e∧∃M' OH,bu w0 M' OH (bq s') w'∧M'.upto s'.length∧L.Le M'∧bT M' t' a'.tmps∧fI K M' a'.defers) n a w:=by
 induction h with
 |out h hx=>
  refine ⟨h.len,1,fun rr Qs K w0 M own w a L le hw hu ht hd=> ?_⟩
  rw [roundsIn_succ]
  refine wpIn_mono (h.run rr Qs K w0 M own w a hw hu ht hd) ?_
  rintro e a' w' ⟨h0,M1,own1,q1,q2,q3,q4,q5⟩
  have fin:∃M' OH,bu w0 M' OH (bq _) w'∧M'.upto _∧L.Le M'∧bT M' _ a'.tmps∧fI K M' a'.defers:=⟨M1,own1,q1,q2,le.trans q3,q4,q5⟩
  rename_i ex _ _
  cases ex with
  |norm=>exact absurd rfl hx
  |exit i=>cases e<;>simp only [Ex.is] at h0;exact ⟨h0,fin⟩
  |ret=>cases e<;>simp only [Ex.is] at h0;exact ⟨h0,fin⟩
 |again h k ih=>
  obtain ⟨i1,n,i2⟩:=ih
  refine ⟨Wo h.len i1,n+1,fun rr Qs K w0 M own w a L le hw hu ht hd=> ?_⟩
  rw [roundsIn_succ]
  refine wpIn_mono (h.run rr Qs K w0 M own w a hw hu ht hd) ?_
  rintro e a' w' ⟨h0,M1,own1,q1,q2,q3,q4,q5⟩
  cases e<;>simp only [Ex.is] at h0
  exact i2 rr Qs K w0 M1 own1 w' a' L (le.trans q3) q1 q2 q4 q5
theorem bc.bA {rd:Bool} {c:Code} {t:List D} {s:List Ob} {ex:Ex} {t':List D} {s':List Ob} (h:jV P rd c t s ex t' s'):bc P rd (.loop c) t s ex t' s':=by
 obtain ⟨h1,n,h2⟩:=h.depth
 exact ⟨fun rr Qs K w0 M own w a hw hu ht hd=>wpIn_loop_rounds n (h2 rr Qs K w0 M own w a M (.refl _) hw hu ht hd),h1⟩
theorem vK {rd:Bool} {ρ':Type} {r:ρ'} {c:Code} {body:List D→List Ob→Z P→(Ex→List D→List Ob→Z P→Option ρ')→Option ρ'}
  (hb:∀ {t:List D} {s:List Ob} {z:Z P} {K:Ex→List D→List Ob→Z P→Option ρ'},body t s z K=some r→∃ex t' s' z',K ex t' s' z'=some r∧(z'.c→z.c∧bc P rd c t s ex t' s')):
  ∀ {n:Nat} {t:List D} {s:List Ob} {z:Z P} {K:Ex→List D→List Ob→Z P→Option ρ'},iter body n t s z K=some r→∃ex t' s' z',K ex t' s' z'=some r∧(z'.c→z.c∧jV P rd c t s ex t' s')
 |0,t,s,z,K,h=>by simp [iter] at h
 |n+1,t,s,z,K,h=>by
  rw [iter] at h
  obtain ⟨ex,t1,s1,z1,h1,h2⟩:=hb h
  split at h1
  ·obtain ⟨ex',t2,s2,z2,h3,h4⟩:=vK hb h1
   exact ⟨ex',t2,s2,z2,h3,fun q=>⟨(h2 (h4 q).1).1,.again (h2 (h4 q).1).2 (h4 q).2⟩⟩
  ·rename_i O0
   exact ⟨_,t1,s1,z1,h1,fun q=>⟨(h2 q).1,.out (h2 q).2 O0⟩⟩
end
def Ai (K:Nat→Prop) (w0:dm) (M:MM) (ex:Ex) (t':List D) (s':List Ob):Exit→Act→World→Prop:=
  fun e a' w'=>ex.is e∧∃M' OH,bu w0 M' OH (bq s') w'∧M'.upto s'.length∧M.Le M'∧bT M' t' a'.tmps∧fI K M' a'.defers
theorem wX {K:Nat→Prop} {w0:dm} {M M1:MM} (le:M.Le M1) {ex:Ex} {t':List D} {s':List Ob} {e:Exit} {a:Act} {w:World} (h:Ai K w0 M1 ex t' s' e a w):Ai K w0 M ex t' s' e a w:=by
 obtain ⟨h0,M',OH,h1,h2,h3,h4,h5⟩:=h
 exact ⟨h0,M',OH,h1,h2,le.trans h3,h4,h5⟩
theorem fX {P:Program} {b:Frame} {a:Act} {k:List Item} {cs:List Frame} {w:World} {c:Code} :step P (lone (b.atR a (.code (.scope c)::k)) cs w)= .next (lone (b.atR a (.code c:: .inScope c::k)) cs w):=
 step_lone_go (by simp [stepG,stepG.exec,Frame.atR])
theorem qt {P:Program} {b:Frame} {a:Act} {k:List Item} {cs:List Frame} {w:World} {c:Code} :step P (lone (b.atR a (.inScope c::k)) cs w)= .next (lone (b.atR a k) cs w):=
 step_lone_go (by simp [stepG,stepG.exec,Frame.atR])
theorem lh {P:Program} {F:Fence} {n:Nat} {Q:Exit→Act→World→Prop} {a:Act} {w:World} {c:Code} (h:c.wpIn F n P (Exit.noGoto Q) a w):(Code.scope c).wpIn F n P Q a w:=by
 intro b k cs hro hb hr
 have h0:(lone (b.atR a (.code (.scope c)::k)) cs w).fenced P F:=fenced_calm hb hr rfl
 obtain ⟨e,a₁,w₁,hq,Pm⟩:=h b (.inScope c::k) cs hro hb hr
 cases e with
 |normal=>exact ⟨.normal,a₁,w₁,hq,.head h0 fX (StepsIn.trans Pm (.one (fenced_calm hb hr rfl) qt))⟩
 |exit id=>
  have hx:exitTo id (.inScope c::k)=exitTo id k:=by simp [exitTo]
  exact ⟨.exit id,a₁,w₁,hq,fun k' hk=> .head h0 fX (Pm.1 k' (by rw [hx];exact hk)),
   fun Q0 hk=>let ⟨k₁,h1,h2⟩:=Pm.2 Q0 (by rw [hx];exact hk);⟨k₁,h1,.head h0 fX h2⟩⟩
 |goto l=>exact hq.elim
 |ret=>exact ⟨_,a₁,w₁,hq,.of_steps (.one h0 fX) Pm⟩
 |panic ch=>exact ⟨_,a₁,w₁,hq,.of_steps (.one h0 fX) Pm⟩
 |outgrown=>exact ⟨_,a₁,w₁,hq,.of_steps (.one h0 fX) Pm⟩
section
variable {P:Program} {rd:Bool}
theorem bc.skip (t:List D) (s:List Ob):bc P rd .skip t s .norm t s:=
 ⟨fun _ _ _ _ M own _ _ hw hu ht hd=>wpIn_skip ⟨trivial,M,own,hw,hu,.refl M,ht,hd⟩,Vq _⟩
theorem bc.label (l:Nat) (t:List D) (s:List Ob):bc P rd (.label l) t s .norm t s:=
 ⟨fun _ _ _ _ M own _ _ hw hu ht hd=>wpIn_label ⟨trivial,M,own,hw,hu,.refl M,ht,hd⟩,Vq _⟩
theorem bc.exit (i:Nat) (t:List D) (s:List Ob):bc P rd (.exit i) t s (.exit i) t s:=
 ⟨fun _ _ _ _ M own _ _ hw hu ht hd=>wpIn_exit ⟨rfl,M,own,hw,hu,.refl M,ht,hd⟩,Vq _⟩
theorem bc.Kz (t:List D) (s:List Ob):bc P rd .ret t s .ret t s:=
 ⟨fun _ _ _ _ M own _ _ hw hu ht hd=>wpIn_ret ⟨trivial,M,own,hw,hu,.refl M,ht,hd⟩,Vq _⟩
theorem bc.Kv {x y:Code} {t t1 t2:List D} {s s1 s2:List Ob} {ex:Ex} (h:bc P rd x t s .norm t1 s1) (k:bc P rd y t1 s1 ex t2 s2):bc P rd (.seq x y) t s ex t2 s2:=by
 refine ⟨fun rr Qs K w0 M own w a hw hu ht hd=>wpIn_seq (wpIn_mono (h.run rr Qs K w0 M own w a hw hu ht hd) ?_),Wo h.len k.len⟩
 rintro e a' w' ⟨h0,M',OH,h1,h2,h3,h4,h5⟩
 cases e<;>simp only [Ex.is] at h0
 exact wpIn_mono (k.run rr Qs K w0 M' OH w' a' h1 h2 h4 h5) fun e a w hh=>wX h3 hh
theorem bc.Ku {x y:Code} {t t1:List D} {s s1:List Ob} {ex:Ex} (h:bc P rd x t s ex t1 s1) (hx:ex≠ .norm):bc P rd (.seq x y) t s ex t1 s1:=by
 refine ⟨fun rr Qs K w0 M own w a hw hu ht hd=>wpIn_seq (wpIn_mono (h.run rr Qs K w0 M own w a hw hu ht hd) ?_),h.len⟩
 rintro e a' w' ⟨h0,h1⟩
 cases ex with
 |norm=>exact absurd rfl hx
 |exit i=>cases e<;>simp only [Ex.is] at h0;exact ⟨h0,h1⟩
 |ret=>cases e<;>simp only [Ex.is] at h0;exact ⟨h0,h1⟩
theorem bc.cond {c:Operand} {x y:Code} {t t1:List D} {s s1:List Ob} {ex:Ex} {b:Bool} (hb:bB t c= .bool b) (h:bc P rd (if b then x else y) t s ex t1 s1):bc P rd (.cond c x y) t s ex t1 s1:=by
 refine ⟨fun rr Qs K w0 M own w a hw hu ht hd=>wpIn_cond (t:=b) ?_ (h.run rr Qs K w0 M own w a hw hu ht hd),h.len⟩
 have hr:=mj ht c
 rw [hb] at hr
 generalize hv:a.eval c=v at hr
 cases hr
 rfl
theorem bc.Ib {id:Nat} {x:Code} {t t1:List D} {s s1:List Ob} (h:bc P rd x t s (.exit id) t1 s1):bc P rd (.block id x) t s .norm t1 s1:=by
 refine ⟨fun rr Qs K w0 M own w a hw hu ht hd=>wpIn_block (wpIn_mono (h.run rr Qs K w0 M own w a hw hu ht hd) ?_),h.len⟩
 rintro e a' w' ⟨h0,h1⟩
 cases e<;>simp only [Ex.is] at h0
 subst h0
 simp only [Exit.inBlock,if_true]
 exact ⟨trivial,h1⟩
theorem bc.En {id:Nat} {x:Code} {t t1:List D} {s s1:List Ob} {ex:Ex} (h:bc P rd x t s ex t1 s1) (hx:∀i,ex= .exit i→i≠id):bc P rd (.block id x) t s ex t1 s1:=by
 refine ⟨fun rr Qs K w0 M own w a hw hu ht hd=>wpIn_block (wpIn_mono (h.run rr Qs K w0 M own w a hw hu ht hd) ?_),h.len⟩
 rintro e a' w' ⟨h0,h1⟩
 cases ex with
 |norm=>cases e<;>simp only [Ex.is] at h0;exact ⟨h0,h1⟩
 |exit i=>
  cases e<;>simp only [Ex.is] at h0
  subst h0
  simp only [Exit.inBlock,if_neg (hx _ rfl)]
  exact ⟨rfl,h1⟩
 |ret=>cases e<;>simp only [Ex.is] at h0;exact ⟨h0,h1⟩
theorem bc.scope {x:Code} {t t1:List D} {s s1:List Ob} {ex:Ex} (h:bc P rd x t s ex t1 s1):bc P rd (.scope x) t s ex t1 s1:=by
 refine ⟨fun rr Qs K w0 M own w a hw hu ht hd=>lh (wpIn_mono (h.run rr Qs K w0 M own w a hw hu ht hd) ?_),h.len⟩
 rintro e a' w' ⟨h0,h1⟩
 cases ex<;>cases e<;>simp only [Ex.is] at h0<;>exact ⟨h0,h1⟩
theorem bc.text {id:Nat} {ops:Array Oper} {t t1:List D} {s s1:List Ob} {tr:List Tr} (h:Trace P ops ops.toList t s tr t1 s1):bc P rd (.region id ops false) t s .norm t1 s1:=by
 refine ⟨fun rr Qs K w0 M own w a hw hu ht hd=>wpIn_region ?_,im h⟩
 rw [List.range_eq_range',show ops.size=ops.toList.length by simp]
 exact nN rr h 0 rfl hw hu ht rfl fun M' OH w' a' le up P2 SY Tm=>⟨trivial,M',OH,P2,up,le,SY,Tm▸hd.mono le.dW⟩
theorem bc.draw {id:Nat} {ops:Array Oper} {t t1:List D} {s s1:List Ob} {tr:List Tr} (hm:P.follows .mixedOrders=true) (h:Trace P ops ops.toList t s tr t1 s1) (hd:l0 ops ((tr.map Tr.fp).reverse++ [])=true):bc P rd (.region id ops true) t s .norm t1 s1:=
 ⟨fun rr _ K _ _ _ _ _ hw hu ht Un=>uK h hd hm id hw hu ht rfl rr fun M' OH _ _ le up P2 SY Tm=>⟨trivial,M',OH,P2,up,le,SY,Tm▸Un.mono le.dW⟩,im h⟩
theorem qx {P:Program} {a:Act} {g:Operand} {gf:FuncId} {fv cv:Array Value} {l:Nat} (hf:a.eval g= .func (.func gf) fv cv) (w:World):
  (resolve a.eval (rangeCall g l) 0).run P w= .ok { target:= .fn (.func gf) cv,args:=fv++ #[.func (.yield l) #[] #[]] } w:=by
 have e:a.eval (.const (.func (.yield l) #[] #[]))= .func (.yield l) #[] #[]:=rfl
 simp [rangeCall,resolve,hf,Deferred.ofValue,e]
theorem bT.iR {M:MM} {bn:List Nat} :∀ {t:List D} {vs:Array Value} (i:Nat),bT M t vs→bT M (iR bn i t) vs:=by
 intro t vs i h
 have len:∀(t:List D) (i:Nat),(Go.Ev.iR bn i t).length=t.length:=by
  intro t
  induction t with
  |nil=>intro i;rfl
  |cons d r ih=>intro i;simp [Go.Ev.iR,ih]
 have PA:∀(t:List D) (i k:Nat) (d:D),(Go.Ev.iR bn i t)[k]? =some d→d= .undef∨t[k]? =some d:=by
  intro t
  induction t with
  |nil=>intro i k d h;simp [Go.Ev.iR] at h
  |cons a r ih=>
   intro i k d h
   cases k with
   |zero=>
    simp only [Go.Ev.iR,Wd,Vs] at h
    split at h
    ·exact .inr (by simp [h])
    ·exact .inl h.symm
   |succ k=>simp only [Go.Ev.iR,V8] at h;simpa using ih _ _ _ h
 refine ⟨by rw [len];exact h.1,fun k d v p q=> ?_⟩
 rcases PA t i k d p with rfl|e
 ·exact .undef v
 ·exact h.2 k d v e q
theorem bT.set {M:MM} {t:List D} {vs:Array Value} (h:bT M t vs) {i:Nat} {d:D} {v:Value} (hr:bo M d v):bT M (t.set i d) (vs.setIfInBounds i v):=by
 refine ⟨by simp [h.1],fun k d' v' p q=> ?_⟩
 by_cases e:k=i
 ·subst e
  have OK:k<t.length:=by
   rcases VA k t.length with x|x
   ·exact x
   ·rw [Vw (by simpa using x)] at p;cases p
  have Qu:k<vs.size:=by rw [← h.1];exact OK
  simp [OK] at p
  simp [Qu] at q
  subst p q
  exact hr
 ·rw [List.getElem?_set_ne (Ne.symm e)] at p
  rw [Array.getElem?_setIfInBounds_ne (Ne.symm e)] at q
  exact h.2 k d' v' p q
theorem bT.kh {M:MM} :∀ {ps:List Nat} {args:List D} {vs:List Value} {t:List D} {tv:Array Value},bT M t tv→args.length=vs.length→(∀(i:Nat) (d:D) (v:Value),args[i]? =some d→vs[i]? =some v→bo M d v)→
  bT M (kh t (ps.zip args)) ((ps.zip vs).foldl (fun tmps (x:Nat×Value)=>tmps.setIfInBounds x.1 x.2) tv)
 | [],args,vs,t,tv,h,hl,hr=>by simpa [Go.Ev.kh] using h
 |p::ps,[],[],t,tv,h,hl,hr=>by simpa [Go.Ev.kh] using h
 |p::ps,[],v::vs,t,tv,h,hl,hr=>by simp at hl
 |p::ps,d::args,[],t,tv,h,hl,hr=>by simp at hl
 |p::ps,d::args,v::vs,t,tv,h,hl,hr=>by
  simp only [List.zip_cons_cons,Go.Ev.kh,List.foldl_cons]
  exact bT.kh (h.set (hr 0 d v rfl rfl)) (by simpa using hl) (fun i d' v' a b=>hr (i+1) d' v' (by simpa using a) (by simpa using b))
theorem bc.range {g:Operand} {ps:Array Tmp} {ag bd:Code} {t:List D} {s:List Ob} {gf:FuncId} {first cap:List D} {bn:List Nat} {d:D} {s2:List Ob} {k:Lk} {t5:List D} {RC:Array Nat} {Rw Rx:Code} {ex:Ex}
  (hg:bB t g= .fn (.func gf) first cap) (OY:cO P gf (first++(.jx s.length::cap)) (s++ [.lp .ready (iR bn 0 t) ps ag bd]) d s2) (hk:s2.getD s.length .dead= .lp k t5 RC Rw Rx)
  (hex:(k= .ready∧ex= .norm)∨(k= .ret∧ex= .ret)∨∃i,k= .exit i∧ex= .exit i):bc P false (.rangeFunc g ps ag bd) t s ex t (s2.set s.length .dead):=by
 have hlen:=OY.len
 rw [Vd,VX] at hlen
 refine ⟨fun rr Qs K w0 M own w a hw hu ht hd=> ?_,by rw [Vj];omega⟩
 obtain rfl:=Qs rfl
 have QK:=mj ht g
 rw [hg] at QK
 generalize hfv:a.eval g=fval at QK
 cases QK with
 |fn h1 h2 r1 r2=>
  rename_i fv cv
  refine wpIn_rangeFunc ?_
  intro fn _
  have R2:=hw.Jj
  obtain ⟨rec,hrec⟩:∃rec:Loop,rec= { state:= .ready,pending:=none,fn,tmps:=a.tmps,params:=ps,assign:=ag,body:=bd,defers:=w.heap.size } :=⟨_,rfl⟩
  have SI:=M.rk w.heap.size
  have Qv:(M.mR w.heap.size).box s.length=none:=hu.1 _ (Vq _)
  have hhs:∀v,(M.mR w.heap.size).bl s.length v=none:=fun v=>hu.2 _ v (Vq _)
  have Qx:=R2.Jk (k:= .ready) (t:=iR bn 0 t) (r:=rec) Qv hhs (by rw [hrec];rfl) (fun _=>by rw [hrec];rfl) (by rw [hrec];exact (ht.mono SI).iR 0)
  have P5:=MM.dt (b:=(w.alloc (.deferred (some []))).heap.size) Qv
  have OT:(w.alloc (.deferred (some []))).heap.size=w.heap.size+1:=World.size_alloc _ _
  rw [show rec.params=ps by rw [hrec],show rec.assign=ag by rw [hrec],show rec.body=bd by rw [hrec],← mT] at Qx
  have PB:((M.mR w.heap.size).bf s.length (w.alloc (.deferred (some []))).heap.size).upto (s++ [Ob.lp .ready (iR bn 0 t) ps ag bd]).length:=by
   rw [Vd,VX]
   refine ⟨fun i hi=> ?_,fun i v hi=>hu.2 i v (by omega)⟩
   simp only [MM.bf,if_neg (show ¬i=s.length by omega)]
   exact hu.1 i (by omega)
  have OV:bT ((M.mR w.heap.size).bf s.length (w.alloc (.deferred (some []))).heap.size) (first++(.jx s.length::cap)) ((fv++ #[.func (.yield (w.heap.size+1)) #[] #[]])++cv):=by
   rw [Array.append_assoc]
   refine bT.append (bT.mono ⟨h1,r1⟩ (SI.trans P5)) ?_
   rw [show (D.jx s.length::cap)= [D.jx s.length]++cap from rfl]
   refine bT.append ⟨rfl,fun i d v p q=> ?_⟩ (bT.mono ⟨h2,r2⟩ (SI.trans P5))
   cases i with
   |zero=>
    simp at p q
    subst p q
    exact .jx (by simp [MM.bf,OT])
   |succ i=>simp at p
  obtain ⟨fnc,code,e1,e2,e3⟩:=OY.Cr
  refine ⟨w.heap.size+1,[{ target:= .collected w.heap.size,args:= #[] }],(w.alloc (.deferred (some []))).alloc (.loop rec),_,_,gf,(fv++ #[.func (.yield (w.heap.size+1)) #[] #[]])++cv,(w.alloc (.deferred (some []))).alloc (.loop rec),?_,qx hfv _,fun _ _=>trivial,?_,fun e=>(by cases e),?_⟩
  ·rw [hrec];exact run_enterLoop_outer _ _ _ _ _
  ·simp only [invoke,callFunc,VD,run_program,Result.andThen_ok,e1,e3,Bool.false_eq_true,if_false,e2,Option.isNone_some,VK]
  have Rz:CallsIn (FW none) (0 - 1) P gf ((fv++ #[.func (.yield (w.heap.size+1)) #[] #[]])++cv) ((w.alloc (.deferred (some []))).alloc (.loop rec)) _:=(callsIn_wide (n:=0)).2 (OY.run w0 _ _ _ _ Qx PB OV)
  refine Rz.mono ?_
  rintro e w3 ⟨v,M',OH,rfl,q1,q2,q3,q4⟩
  have Qp:M.Le M':=(SI.trans P5).trans q3
  obtain ⟨l,r,q⟩:=q1.lp s.length k t5 RC Rw Rx hk
  have TB:M'.box s.length=some (w.heap.size+1):=q3.box _ _ (by simp [MM.bf,OT])
  have el:l=w.heap.size+1:=by have:=q.box;rw [TB] at this;exact (Vk this).symm
  subst el
  have UG:k≠ .busy:=by rcases hex with ⟨rfl,_⟩|⟨rfl,_⟩|⟨i,rfl,_⟩<;>(intro e;cases e)
  have OQ:r.state≠ .busy:=by
   rw [q.st]
   rcases hex with ⟨rfl,_⟩|⟨rfl,_⟩|⟨i,rfl,_⟩<;>(intro e;cases e)
  have Tb:=q1.CG (k':= .ready) (r':= { r with state:= .exhausted }) q .dead (.inl rfl)
  have OK:s.length<s2.length:=by omega
  rw [← kg OK] at Tb
  have hd4:fI K M' ({ target:= .collected w.heap.size,args:= #[] } ::a.defers):=by
   obtain ⟨k0,bs,b1,b2,b3⟩:=hd
   have Pe:∀b,M.dW b→b≠w.heap.size:=fun b hb e=>by
    have:=(hw.dW b hb).2
    rw [e] at this
    simp at this
   refine ⟨fun b hb=>Qp.dW b (k0 b hb),w.heap.size::bs,by rw [b1];rfl,List.nodup_cons.2 ⟨fun hm=>Pe _ (b3 _ hm).1 rfl,b2⟩,?_⟩
   intro b hb
   rcases V6.1 hb with rfl|hb
   ·exact ⟨q3.dW _ (P5.dW _ (.inr rfl)),fun hK=>Pe _ (k0 _ hK) rfl⟩
   ·exact ⟨Qp.dW b (b3 b hb).1,(b3 b hb).2⟩
  have fin:∃M' OH,bu w0 M' OH (bq (s2.set s.length .dead)) (bh w3 (w.heap.size+1) (.loop { r with state:= .exhausted }))∧M'.upto (s2.set s.length .dead).length∧M.Le M'∧bT M' t a.tmps∧fI K M' ({ target:= .collected w.heap.size,args:= #[] } ::a.defers):=
   ⟨M',OH,Tb,by rw [Vj];exact q2,Qp,ht.mono Qp,hd4⟩
  refine ⟨k.Fw,bh w3 (w.heap.size+1) (.loop { r with state:= .exhausted }),?_,?_⟩
  ·rw [← q.pd UG]
   exact run_endLoop (P:=P) q.cq OQ
  ·rcases hex with ⟨rfl,rfl⟩|⟨rfl,rfl⟩|⟨i,rfl,rfl⟩
   ·exact ⟨trivial,fin⟩
   ·exact wpIn_ret ⟨trivial,fin⟩
   ·exact wpIn_exit ⟨rfl,fin⟩
variable {ρ':Type} {r:ρ'}
theorem eg {inl:Ak P ρ'} (Pd:jv P inl) (hm:P.follows .mixedOrders=true):∀ {rd:Bool} (c:Code) {t:List D} {s:List Ob} {z:Z P} {K:Ex→List D→List Ob→Z P→Option ρ'},eG P inl rd c t s z K=some r→
  ∃ex t' s' z',K ex t' s' z'=some r∧(z'.c→z.c∧bc P rd c t s ex t' s')
 |rd,.skip,t,s,z,K,h=>⟨_,_,_,z,by simpa only [eG] using h,fun c=>⟨c,.skip t s⟩⟩
 |rd,.label l,t,s,z,K,h=>⟨_,_,_,z,by simpa only [eG] using h,fun c=>⟨c,.label l t s⟩⟩
 |rd,.exit i,t,s,z,K,h=>⟨_,_,_,z,by simpa only [eG] using h,fun c=>⟨c,.exit i t s⟩⟩
 |rd,.ret,t,s,z,K,h=>⟨_,_,_,z,by simpa only [eG] using h,fun c=>⟨c,.Kz t s⟩⟩
 |rd,.scope x,t,s,z,K,h=>by
  rw [eG] at h
  obtain ⟨ex,t',s',z',h1,h2⟩:=eg Pd hm x h
  exact ⟨ex,t',s',z',h1,fun c=>⟨(h2 c).1,(h2 c).2.scope⟩⟩
 |rd,.region id ops draw,t,s,z,K,h=>by
  rw [eG] at h
  obtain ⟨tr,t',s',z',h1,h2⟩:=eL Pd h
  split at h1
  ·exact ⟨_,_,_,z',h1,fun c=>⟨(h2 c).1,.text (h2 c).2⟩⟩
  ·obtain ⟨hd,h1⟩:=bg h1
   exact ⟨_,_,_,z',h1,fun c=>⟨(h2 c).1,.draw hm (h2 c).2 hd⟩⟩
 |rd,.seq x y,t,s,z,K,h=>by
  rw [eG] at h
  obtain ⟨ex,t1,s1,z1,h1,h2⟩:=eg Pd hm x h
  split at h1
  ·obtain ⟨ex',t2,s2,z2,h3,h4⟩:=eg Pd hm y h1
   exact ⟨ex',t2,s2,z2,h3,fun c=>⟨(h2 (h4 c).1).1,(h2 (h4 c).1).2.Kv (h4 c).2⟩⟩
  ·rename_i O0
   exact ⟨_,_,_,z1,h1,fun c=>⟨(h2 c).1,(h2 c).2.Ku O0⟩⟩
 |rd,.cond q x y,t,s,z,K,h=>by
  rw [eG] at h
  split at h
  ·rename_i b hb
   obtain ⟨z1,⟨h1,h2⟩|⟨h1,h2⟩⟩:=iD h
   ·obtain ⟨ex,t',s',z',h3,h4⟩:=eg Pd hm x h1
    exact ⟨ex,t',s',z',h3,fun c=>⟨(h2 (h4 c).1).1,.cond (b:=true) (by rw [hb,(h2 (h4 c).1).2]) (h4 c).2⟩⟩
   ·obtain ⟨ex,t',s',z',h3,h4⟩:=eg Pd hm y h1
    exact ⟨ex,t',s',z',h3,fun c=>⟨(h2 (h4 c).1).1,.cond (b:=false) (by rw [hb,(h2 (h4 c).1).2]) (h4 c).2⟩⟩
  ·cases h
 |rd,.block id x,t,s,z,K,h=>by
  rw [eG] at h
  split at h
  ·rename_i sp n0 c' t1 s1 ex t2 s2 hg rest _
   split at h
   ·rename_i t' s' hh
    obtain ⟨hn,h'⟩:=bg h
    rw [VJ] at hn
    subst hn
    obtain ⟨z',h1,h2⟩:=mK h'
    exact ⟨ex,t2,s2,_,h1,fun q=>have k:=(h2 q).1;⟨k.2,.zH (k.1.1▸k.1.2.1▸k.1.2.2▸hg) hh (h2 q).2⟩⟩
   ·cases h
  ·obtain ⟨ex,t1,s1,z1,h1,h2⟩:=eg Pd hm x h
   split at h1
   ·rename_i i
    split at h1
    ·rename_i hi
     have hi:i=id:=by simpa using hi
     subst hi
     exact ⟨_,_,_,z1,h1,fun c=>⟨(h2 c).1,(h2 c).2.Ib⟩⟩
    ·rename_i hi
     have hi:i≠id:=fun e=>by subst e;simp at hi
     exact ⟨_,_,_,z1,h1,fun c=>⟨(h2 c).1,(h2 c).2.En fun j hj=>by cases hj;exact hi⟩⟩
   ·rename_i O0
    exact ⟨_,_,_,z1,h1,fun c=>⟨(h2 c).1,(h2 c).2.En fun j hj=>absurd hj (O0 j)⟩⟩
 |rd,.loop x,t,s,z,K,h=>by
  rw [eG] at h
  split at h
  ·obtain ⟨ex,t',s',z',h1,h2⟩:=vK (c:=x) (fun h=>eg Pd hm x h) h
   exact ⟨ex,t',s',z',h1,fun k=>⟨(h2 k).1,.bA (h2 k).2⟩⟩
  ·rename_i sp n0 c' t1 s1 ex t2 s2 hg rest _
   split at h
   ·rename_i t' s' hh
    obtain ⟨hn,h'⟩:=bg h
    rw [VJ] at hn
    subst hn
    obtain ⟨z',h1,h2⟩:=mK h'
    exact ⟨ex,t2,s2,_,h1,fun q=>have k:=(h2 q).1;⟨k.2,.zH (k.1.1▸k.1.2.1▸k.1.2.2▸hg) hh (h2 q).2⟩⟩
   ·cases h
  ·rename_i c' t1 s1 ex t2 s2 hg rest _
   exact ⟨ex,t2,s2,_,h,fun k=>⟨k.2,.any (k.1.1▸k.1.2.1▸k.1.2.2▸hg) _⟩⟩
  ·cases h
 |rd,.rangeFunc g ps ag bd,t,s,z,K,h=>by
  rw [eG] at h
  split at h
  ·split at h
   ·rename_i gf first cap hg
    rw [eW,mX] at h
    obtain ⟨d,s2,z1,h1,h2⟩:=Pd (.fn gf) _ _ _ _ r h
    split at h1
    ·rename_i hk
     rw [gi] at h1
     exact ⟨_,_,_,z1,h1,fun c=>⟨(h2 c).1,bc.range hg (h2 c).2 hk (.inl ⟨rfl,rfl⟩)⟩⟩
    ·rename_i hk
     rw [gi] at h1
     exact ⟨_,_,_,z1,h1,fun c=>⟨(h2 c).1,bc.range hg (h2 c).2 hk (.inr (.inl ⟨rfl,rfl⟩))⟩⟩
    ·rename_i hk
     rw [gi] at h1
     exact ⟨_,_,_,z1,h1,fun c=>⟨(h2 c).1,bc.range hg (h2 c).2 hk (.inr (.inr ⟨_,rfl,rfl⟩))⟩⟩
    ·cases h1
   ·cases h
  ·rename_i c' t1 s1 ex t2 s2 hg rest _
   exact ⟨ex,t2,s2,_,h,fun k=>⟨k.2,.any (k.1.1▸k.1.2.1▸k.1.2.2▸hg) _⟩⟩
  ·cases h
 |rd,.goto l,t,s,z,K,h=>by
  rw [eG] at h
  split at h
  ·rename_i c' t1 s1 ex t2 s2 hg rest _
   exact ⟨ex,t2,s2,_,h,fun k=>⟨k.2,.any (k.1.1▸k.1.2.1▸k.1.2.2▸hg) _⟩⟩
  ·cases h
  all_goals (intros;rename_i q;cases q)
 |rd,.refuse y,t,s,z,K,h=>by
  rw [eG] at h
  split at h
  ·rename_i c' t1 s1 ex t2 s2 hg rest _
   exact ⟨ex,t2,s2,_,h,fun k=>⟨k.2,.any (k.1.1▸k.1.2.1▸k.1.2.2▸hg) _⟩⟩
  ·cases h
  all_goals (intros;rename_i q;cases q)
def AK (tmps:Array Value):ResultVar→Sem Value
  | .tmp t=>pure (tmps.getD t undef)
  | .cell a t=>do loadVar t (← asAddr (tmps.getD a undef))
theorem xe (fn:Func) (tmps:Array Value):results fn tmps=(do
  let vs ← fn.results.mapM (AK tmps)
  pure (if h:vs.size=1 then vs[0] else .tuple vs)):=by
 unfold results
 rfl
theorem xg {w0:dm} {M:MM} {own:Nat→Option Nat} {w:World} {t:List D} {s:List Ob} {tmps:Array Value} (hw:bu w0 M own (bq s) w) (ht:bT M t tmps) {x:ResultVar} {d:D} (h:sG P t s x=some d):
  ∃v,bo M d v∧(AK tmps x).run P w= .ok v w:=by
 cases x with
 |tmp i=>
  simp only [sG,Vs] at h
  subst h
  exact ⟨_,ic ht i,by simp [AK]⟩
 |cell a ty=>
  simp only [sG] at h
  split at h
  ·rename_i dyn id off hp
   split at h
   ·rename_i cs hb
    have hx:=ic ht a
    rw [hp] at hx
    generalize hv:tmps.getD a undef=v at hx
    cases hx with
    |ptr _ Qv=>
     rename_i b'
     obtain ⟨b,vs,tt,k⟩:=hw.box id cs hb
     rw [k.box] at Qv
     obtain rfl:=Vk Qv
     have Pu:∀j c,cs[j]? =some c→w.cell? ⟨b,0+j,none⟩=some (vs.getD j .nilFunc)∧bo M c (vs.getD j .nilFunc):=by
      intro j c hj
      obtain ⟨u,hu,hru⟩:=kM k.len k.rep hj
      rw [Array.getD_eq_getD_getElem?,hu]
      refine ⟨?_,hru⟩
      simp [World.cell?,k.cq,hu]
     have Vb:kE P ty cs off d:=by
      split at h
      ·rename_i e he
       split at h
       ·rename_i ha
        split at h
        ·rename_i hk
         simp only [Vi,Wg] at hk
         exact ⟨e,he,.inl ⟨ha,hk.2,(Vk h).symm⟩⟩
        ·cases h
       ·rename_i ha
        exact ⟨e,he,.inr ⟨ha,h⟩⟩
      ·cases h
     obtain ⟨u,h1,h2⟩:=iu Vb (fun j=>vs.getD j .nilFunc) Pu
     rw [VT] at h1
     refine ⟨u,h2,?_⟩
     simp only [AK,hv,asAddr,VD,VK,Result.andThen_ok,h1]
   ·cases h
  ·cases h
theorem uG {w0:dm} {M:MM} {own:Nat→Option Nat} {w:World} {t:List D} {s:List Ob} {tmps:Array Value} (hw:bu w0 M own (bq s) w) (ht:bT M t tmps):∀ {l:List ResultVar} {ds:List D},xh P t s l=some ds→
  ∃vs:List Value,ds.length=vs.length∧(∀(i:Nat) (d:D) (v:Value),ds[i]? =some d→vs[i]? =some v→bo M d v)∧Sem.run P (List.mapM (AK tmps) l) w= .ok vs w
 | [],ds,h=>by
  simp only [xh,Vs] at h
  subst h
  exact ⟨[],rfl,fun i d v h=>by simp at h,by simp⟩
 |x::l,ds,h=>by
  simp only [xh] at h
  split at h
  ·rename_i d TN hd hl
   obtain rfl:=Vk h
   obtain ⟨v,h1,h2⟩:=xg hw ht hd
   obtain ⟨vs,k1,k2,k3⟩:=uG hw ht hl
   refine ⟨v::vs,by simp [k1],?_,?_⟩
   ·intro i d' v' a b
    cases i with
    |zero=>simp at a b;subst a b;exact h1
    |succ i=>simp at a b;exact k2 i d' v' a b
   ·rw [List.mapM_cons,VD,h2,Result.andThen_ok,VD,k3,Result.andThen_ok,VK]
  ·cases h
theorem uF {w0:dm} {M:MM} {own:Nat→Option Nat} {w:World} {t:List D} {s:List Ob} {tmps:Array Value} {fn:Func} (hw:bu w0 M own (bq s) w) (ht:bT M t tmps) {ds:List D} (h:xh P t s fn.results.toList=some ds):
  ∃v,bo M (xi ds) v∧(results fn tmps).run P w= .ok v w:=by
 obtain ⟨vs,k1,k2,k3⟩:=uG hw ht h
 have e:(results fn tmps).run P w= .ok (if h:vs.length=1 then vs[0] else .tuple vs.toArray) w:=by
  have hr:fn.results=fn.results.toList.toArray:=by simp
  rw [xe,hr,List.mapM_toArray,VD]
  rw [show (List.toArray<$>List.mapM (AK tmps) fn.results.toList:Sem (Array Value)).run P w= .ok vs.toArray w by
   rw [map_eq_pure_bind,VD,k3];simp]
  simp
 refine ⟨_,?_,e⟩
 cases ds with
 |nil=>
  cases vs with
  |nil=>simp only [xi];exact .aM rfl (fun i d v a=>by simp at a)
  |cons a b=>simp at k1
 |cons d ds=>
  cases ds with
  |nil=>
   cases vs with
   |nil=>simp at k1
   |cons a b=>
    cases b with
    |nil=>simp only [xi];exact k2 0 d a rfl rfl
    |cons b c=>simp at k1
  |cons d2 ds=>
   cases vs with
   |nil=>simp at k1
   |cons a b=>
    cases b with
    |nil=>simp at k1
    |cons b c=>simp only [xi];exact .aM (by simpa using k1) (fun i d v p q=>k2 i d v p (by simpa using q))
theorem mA {fn:Func} {tmps:Array Value} {R:Ending→World→Prop} {w0:dm} {own:Nat→Option Nat} {σ:Nat→Ob} :∀(bs:List Nat) {M:MM} {w:World},bu w0 M own σ w→bs.Nodup→(∀b∈bs,M.dW b)→
  (∀(f:Nat→Prop) (w2:World),(∀b,M.dW b→b∉bs→f b)→bu w0 { M with dW:=f } own σ w2→∃v,(results fn tmps).run P w2= .ok v w2∧R (.returned v) w2)→
  LeavesInM Fence.wide 0 P fn tmps R (bs.map fun b=> { target:= .collected b,args:= #[] }) .returning w
 | [],M,w,hw,_,_,h=>h M.dW w (fun _ hb _=>hb) hw
 |b::bs,M,w,hw,hn,hb,h=>by
  obtain ⟨SW,Sf⟩:=List.nodup_cons.1 hn
  refine ⟨fun e=>(by cases e),.inl ⟨b,_,rfl,run_takeDeferred (hw.dW b (hb b (by simp))).2,?_⟩⟩
  refine mA bs (hw.sv (hb b (by simp))) Sf (fun c hc=>⟨hb c (by simp [hc]),fun e=>SW (e▸hc)⟩) fun f w2 hf Qx=> ?_
  exact h f w2 (fun c hc hm=>hf c ⟨hc,fun e=>hm (by simp [e])⟩ (fun TG=>hm (by simp [TG]))) Qx
theorem rL {inl:Ak P ρ'} (Pd:jv P inl) (hm:P.follows .mixedOrders=true) {f:FuncId} {fn:Func} (hf:P.funcs[f]? =some fn) (hn:(fn.name== "runtime.NumGoroutine")=false)
  {args:List D} {s:List Ob} {z:Z P} {K:D→List Ob→Z P→Option ρ'} (h:rM P inl fn args s z K=some r):∃d s' z',K d s' z'=some r∧(z'.c→z.c∧cO P f args s d s'):=by
 unfold rM at h
 split at h
 ·rename_i c hc
  obtain ⟨hle,h⟩:=bg h
  rw [eW] at h
  obtain ⟨ex,t',s',z',h1,h2⟩:=eg (rd:=false) Pd hm c h
  have main:∀ {l},xh P t' s' fn.results.toList=some l→(∀i,ex≠ .exit i)→bc P false c (args++List.replicate (fn.ntmps - args.length) .undef) s ex t' s'→cO P f args s (xi l) s':=by
   intro l hl hex OY
   refine ⟨⟨fn,c,hf,hc,hn⟩,OY.len,?_⟩
   intro w0 M own w vs hw hu ha
   refine (callsIn_wide (n:=0)).1 (callsIn_of_wp_marks hf hc trivial (wpIn_mono (OY.run none (fun _=>rfl) M.dW w0 M own w _ hw hu ?_ ⟨fun _ h=>h,[],rfl,List.nodup_nil,fun b hb=>by cases hb⟩) ?_))
   ·refine ha.append ⟨by simp [ha.1],fun i d v p q=> ?_⟩
    rw [List.getElem?_replicate] at p
    split at p
    ·obtain rfl:=Vk p;exact .undef v
    ·cases p
   ·rintro e a' w' ⟨h0,M',OH,q1,q2,q3,q4,_,bs,b1,b2,b3⟩
    have fin:LeavesInM Fence.wide 0 P fn a'.tmps (fun e w'=> ∃v M' OH,e= .returned v∧bu w0 M' OH (bq s') w'∧M'.upto s'.length∧M.Le M'∧bo M' (xi l) v) a'.defers .returning w':=by
     rw [b1]
     refine mA bs q1 b2 (fun b hb=>(b3 b hb).1) fun f w2 S2 Qx=> ?_
     have q4':bT { M' with dW:=f } t' a'.tmps:=⟨q4.1,fun i d v p q=>(q4.2 i d v p q).Ji⟩
     obtain ⟨v,r1,r2⟩:=uF Qx q4' hl
     exact ⟨v,r2,v,_,OH,rfl,Qx,⟨q2.1,q2.2⟩,⟨q3.cell,q3.box,q3.bl,fun b hb=>S2 b (q3.dW b hb) (fun hm=>(b3 b hm).2 hb)⟩,r1⟩
    cases ex with
    |exit i=>exact absurd rfl (hex i)
    |norm=>cases e<;>simp only [Ex.is] at h0;exact fin
    |ret=>cases e<;>simp only [Ex.is] at h0;exact fin
  split at h1
  ·cases h1
  ·rename_i hex
   split at h1
   ·rename_i l hl
    exact ⟨_,_,z',h1,fun c=>⟨(h2 c).1,main hl (fun i hi=>hex i hi) (h2 c).2⟩⟩
   ·cases h1
 ·cases h
theorem wZ {inl:Ak P ρ'} (Pd:jv P inl) (hm:P.follows .mixedOrders=true) {id:Nat} {args:List D} {s:List Ob} {z:Z P} {K:D→List Ob→Z P→Option ρ'} (h:xa P inl id args s z K=some r):
  ∃d s' z',K d s' z'=some r∧(z'.c→z.c∧tX P id args s d s'):=by
 unfold xa at h
 split at h
 ·rename_i t ps ag bd hs
  obtain ⟨hle,h⟩:=bg h
  rw [VJ] at hle
  rw [eW] at h
  obtain ⟨ex,t2,s2,z1,h1,h2⟩:=eg (rd:=true) Pd hm ag h
  split at h1
  ·split at h1
   ·rename_i t' TL TD Ty QH
    rw [gi] at h1
    obtain ⟨ex2,t4,s4,z2,h3,h4⟩:=eg (rd:=true) Pd hm bd h1
    split at h3
    ·rename_i t5 RC Rw Rx UQ
     have main:∀(k:Lk) (j:Option Code),((ex2= .norm∧k= .ready∧j=none)∨(ex2= .ret∧k= .ret∧j=some .ret)∨∃i,ex2= .exit i∧k= .exit i∧j=some (.exit i))→
       bc P true ag (kh t (ps.toList.zip args)) s .norm t2 s2→bc P true bd t2 (s2.set id (.lp .busy t' TL TD Ty)) ex2 t4 s4→tX P id args s (.bool j.isNone) (s4.set id (.lp k t5 RC Rw Rx)):=by
      intro k j TY Sh Q4
      have RT:=Q4.len
      rw [Vj] at RT
      refine ⟨by rw [Vj];exact Wo Sh.len RT,?_⟩
      intro w0 M own w vs l hw hu ha hb
      obtain ⟨l',rc,q⟩:=hw.lp id _ _ _ _ _ hs
      obtain rfl:l'=l:=by have:=q.box;rw [hb] at this;exact (Vk this).symm
      have OT:vs.size=rc.params.size:=by rw [← ha.1,hle,q.ps]
      refine ⟨_,_,_,_,run_yield q.cq OT,?_⟩
      have htm:bT M (kh t (ps.toList.zip args)) ((rc.params.zip vs).foldl (fun tmps (x:Nat×Value)=>tmps.setIfInBounds x.1 x.2) rc.tmps):=by
       have:=bT.kh (ps:=ps.toList) (args:=args) (vs:=vs.toList) q.tm (by rw [ha.1];simp) (fun i d v p u=>ha.2 i d v p (by simpa using u))
       rw [q.ps,← Array.foldl_toList,Array.toList_zip]
       exact this
      refine roundIn_of_wpIn (F:=Fence.wide) (n:=0) trivial ?_
      rw [q.ag,q.bd]
      refine wpIn_mono (Sh.run (some l') (fun e=>by cases e) M.dW w0 M own w _ hw hu htm ⟨fun _ h=>h,[],rfl,List.nodup_nil,fun b hb=>by cases hb⟩) ?_
      rintro e a1 w1 ⟨h0,M1,own1,q1,q2,q3,q4,q5⟩
      cases e<;>simp only [Ex.is] at h0
      obtain ⟨l1,rc1,p1⟩:=q1.lp id _ _ _ _ _ QH
      obtain rfl:l1=l':=by have:=p1.box;rw [q3.box _ _ hb] at this;exact (Vk this).symm
      have Qu:=cK (s:=s2) (i:=id) (by rw [QH];simp)
      have Qx:=q1.CG (k':= .busy) (r':= { rc1 with state:= .busy }) p1 (.lp .busy t' TL TD Ty) (.inr ⟨rfl,rfl,fun e=>absurd rfl e,rfl,rfl,rfl,rfl⟩)
      rw [← kg Qu] at Qx
      refine ⟨_,run_beginRound p1.cq p1.st,?_⟩
      refine wpIn_mono (Q4.run (some l1) (fun e=>by cases e) M.dW w0 M1 own1 _ a1 Qx (by rw [Vj];exact q2) q4 q5) ?_
      rintro e2 a2 w3 ⟨RG,M2,P6,u1,u2,u3,u4,u5⟩
      obtain ⟨l2,rc2,p2⟩:=u1.lp id _ _ _ _ _ UQ
      obtain rfl:l2=l1:=by have:=p2.box;rw [u3.box _ _ (q3.box _ _ hb)] at this;exact (Vk this).symm
      have UF:=cK (s:=s4) (i:=id) (by rw [UQ];simp)
      have Tb:=u1.CG (k':=k) (r':= { rc2 with state:=if j.isNone then .ready else .done,pending:=j }) p2 (.lp k t5 RC Rw Rx) (.inr ⟨rfl,by
       rcases TY with ⟨_,rfl,rfl⟩|⟨_,rfl,rfl⟩|⟨i,_,rfl,rfl⟩<;>rfl,fun _=>by
       rcases TY with ⟨_,rfl,rfl⟩|⟨_,rfl,rfl⟩|⟨i,_,rfl,rfl⟩<;>rfl,rfl,rfl,rfl,rfl⟩)
      rw [← kg UF] at Tb
      have fin:∃v w',(Instr.endRound l2 j).run P w3= .ok v w'∧∃v' M' OH,Ending.returned v= .returned v'∧bu w0 M' OH (bq (s4.set id (.lp k t5 RC Rw Rx))) w'∧M'.upto (s4.set id (.lp k t5 RC Rw Rx)).length∧M.Le M'∧bo M' (.bool j.isNone) v':=
       ⟨_,_,run_endRound j p2.cq,_,M2,P6,rfl,Tb,by rw [Vj];exact u2,q3.trans u3,.bool _⟩
      rcases TY with ⟨rfl,rfl,rfl⟩|⟨rfl,rfl,rfl⟩|⟨i,rfl,rfl,rfl⟩
      ·cases e2<;>simp only [Ex.is] at RG
       exact fin
      ·cases e2<;>simp only [Ex.is] at RG
       exact fin
      ·cases e2<;>simp only [Ex.is] at RG
       subst RG
       exact fin
     split at h3
     ·rw [gi] at h3
      exact ⟨_,_,z2,h3,fun c=>⟨(h2 (h4 c).1).1,main .ready none (.inl ⟨rfl,rfl,rfl⟩) (h2 (h4 c).1).2 (h4 c).2⟩⟩
     ·rw [gi] at h3
      exact ⟨_,_,z2,h3,fun c=>⟨(h2 (h4 c).1).1,main .ret (some .ret) (.inr (.inl ⟨rfl,rfl,rfl⟩)) (h2 (h4 c).1).2 (h4 c).2⟩⟩
     ·rename_i i
      rw [gi] at h3
      exact ⟨_,_,z2,h3,fun c=>⟨(h2 (h4 c).1).1,main (.exit i) (some (.exit i)) (.inr (.inr ⟨i,rfl,rfl,rfl⟩)) (h2 (h4 c).1).2 (h4 c).2⟩⟩
    ·cases h3
   ·cases h1
  ·cases h1
 ·cases h
theorem gE (hm:P.follows .mixedOrders=true):∀n:Nat,jv P (pL (ρ:=ρ') P n)
 |0=>fun g args s z K r h=>by simp [pL] at h
 |n+1=>fun g args s z K r h=>by
  rw [pL] at h
  simp only [] at h
  cases g with
  |fn f=>
   simp only [] at h
   split at h
   ·rename_i fn hf
    obtain ⟨hn,h⟩:=bg h
    exact rL (gE hm n) hm hf (by simpa using hn) h
   ·cases h
  |yl id=>
   simp only [] at h
   exact wZ (gE hm n) hm h
end
section
variable {P:Program}
theorem nM {M:MM} {s:List Ob} {d:D} {v:Value} (h:bo M d v) (hc:d.clean=true):bo (ep M.cell) (iM s d) v:=by
 unfold iM
 split
 ·rename_i id ver sz xs
  have h1:=h.mS hc
  have:∀o:j9,(o= .no∨∃k,o= .fresh k)→bo (ep M.cell) (.aj o sz xs) v:=by
   intro o ho
   cases h1 with
   |aj b off vs hl OL ha OT Qg hr OQ _=>exact .aj b off vs hl OL ha OT Qg hr OQ (by rcases ho with rfl|⟨k,rfl⟩<;>trivial)
  split
  ·split
   ·exact this _ (.inr ⟨_,rfl⟩)
   ·exact this _ (.inl rfl)
  ·exact this _ (.inl rfl)
 ·exact h.mS hc
theorem tD {d:D} {sz O1:Nat} {xs:List D} :d.aJ≠ .aj (.fresh sz) O1 xs:=by
 intro h
 cases d<;>simp only [D.aJ,reduceCtorEq] at h
 case aj o _ _=>cases o<;>simp [j9.aJ] at h
theorem lz {w0:dm} (hX:∀b,¬w0.X b→w0.w.heap.size≤b) {M:MM} {own:Nat→Option Nat} {w:World} {s:List Ob} (hw:bu w0 M own (bq s) w) {d:D} {v:Value} (h:bo M d v) {sz O1:Nat} {xs:List D} (e:iM s d= .aj (.fresh sz) O1 xs):
  ∃a len cap,v= .slice a len cap∧O1=sz∧ik w0.w.heap.size w M.cell sz a len cap:=by
 unfold iM at e
 split at e
 ·rename_i id ver UC TR
  split at e
  ·rename_i v' PC hs
   split at e
   ·rename_i hb
    simp only [Vi,VJ] at hb
    obtain ⟨rfl,rfl⟩:=hb
    simp only [D.aj.injEq,j9.fresh.injEq] at e
    obtain ⟨rfl,rfl,rfl⟩:=e
    obtain ⟨a,len,cap,k⟩:=hw.bz id ver UC hs
    cases h with
    |aj b off vs hl OL ha OT Qg hr OQ ho=>
     have:M.bl id ver=some _:=ho
     rw [k.bl] at this
     obtain ⟨rfl,rfl,rfl⟩:=Value.slice.inj (Vk this)
     refine ⟨_,_,_,rfl,rfl,?_⟩
     rcases k.room with q|⟨b,vs,ty,fz,q,r⟩
     ·exact .inl q
     ·exact .inr ⟨b,vs,ty,fz,q,hX _ r.base,r.cq,r.fz,r.cap,r.none⟩
   ·cases e
  ·cases e
 ·exact absurd e tD
theorem CR {w0:dm} (hX:∀b,¬w0.X b→w0.w.heap.size≤b) {M:MM} {own:Nat→Option Nat} {w:World} {s:List Ob} (hw:bu w0 M own (bq s) w) {d:D} {v:Value} (h:bo M d v) (hc:d.clean=true):bo (ep M.cell) (AO s d) v∧za w0.w.heap.size w M.cell (AO s d) v:=by
 by_cases ht:∃ds,d= .aM ds
 ·obtain ⟨ds,rfl⟩:=ht
  cases h with
  |aM hl r=>
   rename_i vs
   rw [D.clean,D.ij,VP] at hc
   refine ⟨.aM (by simpa using hl) ?_,?_,?_⟩
   ·intro i d v a b
    rw [VC,Vz] at a
    obtain ⟨d0,h0,rfl⟩:=a
    exact nM (r i d0 v h0 b) (hc _ (VQ h0))
   ·intro sz O1 xs e;simp [AO] at e
   ·intro TN vs' e1 e2 i sz O1 xs hi
    simp only [AO,D.aM.injEq] at e1
    obtain rfl:=Value.tuple.inj e2
    subst e1
    rw [VC,Vz] at hi
    obtain ⟨d0,h0,e⟩:=hi
    have OK:i<vs.size:=by
     rw [← hl]
     rcases VA i ds.length with q|q
     ·exact q
     ·rw [Vw q] at h0;cases h0
    obtain ⟨a,len,cap,k1,k2,k3⟩:=lz hX hw (r i d0 vs[i] h0 (by simp [OK])) e
    exact ⟨a,len,cap,by simp [OK,k1],k2,k3⟩
 ·have e:AO s d=iM s d:=by
   cases d<;>first|rfl|exact absurd ⟨_,rfl⟩ ht
  rw [e]
  refine ⟨nM h hc,fun sz O1 xs q=>lz hX hw h q,fun ds vs q=> ?_⟩
  exfalso
  unfold iM at q
  split at q
  ·split at q
   ·split at q<;>cases q
   ·cases q
  ·cases d<;>simp only [D.aJ,reduceCtorEq] at q
   exact ht ⟨_,rfl⟩
theorem aZ.aw (hm:P.follows .mixedOrders=true) {f:FuncId} {fn:Func} (hf:P.funcs[f]? =some fn) (hn:(fn.name== "runtime.NumGoroutine")=false) {args:List D} {d:D} (o:List (Ev P))
  (h:tA P fn args o=some (d,pa o True)):aZ P f args d:=by
 unfold tA at h
 obtain ⟨d0,s',z',h1,h2⟩:=rL (gE hm 20) hm hf hn h
 obtain ⟨hc,h1⟩:=bg h1
 split at h1
 ·simp only [Vs,Wk] at h1
  obtain ⟨rfl,hz⟩:=h1
  have OY:=(h2 (by rw [hz];exact jA o trivial)).2
  refine ⟨OY.Cr,fun w C vs hC ha=>Calls.mono (OY.run ⟨w,C,fun k=>k<w.heap.size⟩ (ep C) (fun _=>none) w vs ?_ ⟨fun _ _=>rfl,fun _ _ _=>rfl⟩ ha) ?_⟩
  ·refine ⟨.of _,hC,?_,?_,?_,?_,?_,?_,fun b hb=>hb.elim⟩
   ·intro b o v k _;exact k
   ·intro b i k;cases k
   ·intro i cs k;simp [bq] at k
   ·intro i v sz k;simp [bq] at k
   ·intro i F q;simp [bq,Ob.Bb] at q
   ·intro i k t ps ag bd q;simp [bq] at q
  ·rintro e w' ⟨v,M',OH,rfl,q1,q2,q3,q4⟩
   obtain ⟨r1,r2⟩:=CR (fun _ h=>Nat.le_of_not_lt h) q1 q4 hc
   exact ⟨v,M'.cell,rfl,⟨q1.below.below,q3.cell,q1.g7,q1.cells⟩,r1,r2⟩
 ·cases h1
theorem aZ.cast {f:FuncId} {args Sb:List D} {d d':D} (h:aZ P f args d) (ha:args=Sb) (hd:d=d'):aZ P f Sb d':=ha▸hd▸h
theorem jW.aw (hm:P.follows .mixedOrders=true) {c:Code} {t:List D} {s:List Ob} {ex:Ex} {t':List D} {s':List Ob} (o:List (Ev P))
  (h:evalCode P c t s o=some ((ex,t',s'),pa o True)):jW P c t s ex t' s':=by
 unfold evalCode at h
 obtain ⟨Tx,t1,s1,z',h1,h2⟩:=eg (rd:=true) (gE hm 20) hm c h
 split at h1
 ·simp only [Vs,Wk] at h1
  obtain ⟨⟨rfl,rfl,rfl⟩,hz⟩:=h1
  exact (h2 (by rw [hz];exact jA o trivial)).2
 ·cases h1
structure ao (P:Program) (c:Code) (sp:HS) (n0:Nat) (t:List D) (s:List Ob) (ex:Ex) (t':List D) (s':List Ob):Prop where
  run:∃t1 s1,jW P c t s ex t1 s1∧mD sp n0 t1 s1=some (t',s')∧pQ sp t1 s1
theorem ao.aw (hm:P.follows .mixedOrders=true) {c:Code} {sp:HS} {n0:Nat} {t:List D} {s:List Ob} {ex:Ex} {t':List D} {s':List Ob} (o:List (Ev P))
  (h:rH P c sp n0 t s o=some ((ex,t',s'),pa o True)):ao P c sp n0 t s ex t' s':=by
 unfold rH at h
 obtain ⟨Tx,t1,s1,z',h1,h2⟩:=eg (rd:=true) (gE hm 20) hm c h
 split at h1
 ·rename_i t2 s2 hh
  obtain ⟨z2,h3,h4⟩:=mK h1
  split at h3
  ·simp only [Vs,Wk] at h3
   obtain ⟨⟨rfl,rfl,rfl⟩,hz⟩:=h3
   have PT:=h4 (by rw [hz];exact jA o trivial)
   exact ⟨t1,s1,(h2 PT.1).2,hh,PT.2⟩
  ·cases h3
 ·cases h1
theorem aF.cG {c:Code} {sp:HS} {n0:Nat} {t t2:List D} {s s2:List Ob} {ex:Ex} {t':List D} {s':List Ob} (h:ao P c sp n0 t s .norm t2 s2) (k:aF P c n0 t2 s2 ex t' s'):aF P c n0 t s ex t' s':=
 let ⟨_,_,h1,h2,h3⟩:=h.run
 .again sp h1 h2 h3 k
theorem aF.last {c:Code} {sp:HS} {n0:Nat} {t:List D} {s:List Ob} {ex:Ex} {t':List D} {s':List Ob} (h:ao P c sp n0 t s ex t' s') (hx:ex≠ .norm):aF P c n0 t s ex t' s':=
 let ⟨_,_,h1,h2,h3⟩:=h.run
 .out sp h1 hx h2 h3
def oe (bn:List Nat):Nat→List Ob→List Ob
  |_,[]=> []
  |i,o::r=>(match gW i bn with|true=>o|false=> .dead)::oe bn (i+1) r
def wi (P:Program) (g:FuncId) (args:List D) (s:List Ob) (bn:List Nat) (o:List (Ev P)):Option ((D×List Ob)×Prop):=
  pL P 20 (.fn g) args s ⟨o,True⟩ fun d s' z=>match z.o with| []=>some ((d,oe bn 0 s'),z.c)|_=>none
theorem nD (bn:List Nat):∀(s:List Ob) (i:Nat),(oe bn i s).length=s.length
 | [],_=>rfl
 |o::r,i=>by simp [oe,nD bn r]
theorem wo (bn:List Nat):∀(s:List Ob) (i k:Nat),(oe bn i s).getD k .dead=s.getD k .dead∨(oe bn i s).getD k .dead= .dead
 | [],_,_=> .inl rfl
 |o::r,i,0=>by
  simp only [oe,List.getD_cons_zero]
  split
  ·exact .inl rfl
  ·exact .inr rfl
 |o::r,i,k+1=>by simp only [oe,List.getD_cons_succ];exact wo bn r (i+1) k
theorem bu.sub {w0:dm} {M:MM} {own:Nat→Option Nat} {σ σ':Nat→Ob} {w:World} (h:bu w0 M own σ w) (hs:∀i,σ' i=σ i∨σ' i= .dead):bu w0 M own σ' w:=by
 have PA:∀ {i:Nat} {o:Ob},σ' i=o→o≠ .dead→σ i=o:=fun {i o} e hn=>by
  rcases hs i with q|q
  ·rw [← q];exact e
  ·exact absurd (e▸q:o= .dead) hn
 exact ⟨h.below,h.cells,h.g7,h.owned,fun i cs e=>h.box i cs (PA e (by simp)),fun i v sz e=>h.bz i v sz (PA e (by simp)),(fun i F e=>(hs i).elim (fun q=>h.mp i F (by rw [← q];exact e)) (fun q=>by rw [q] at e;cases e)),
  fun i k t ps ag bd e=>h.lp i k t ps ag bd (PA e (by simp)),h.dW⟩
theorem cO.aw (hm:P.follows .mixedOrders=true) {g:FuncId} {args:List D} {s:List Ob} {d:D} {s':List Ob} {bn:List Nat} (o:List (Ev P))
  (h:wi P g args s bn o=some ((d,s'),pa o True)):cO P g args s d s':=by
 unfold wi at h
 obtain ⟨d1,s1,z',h1,h2⟩:=gE hm 20 (.fn g) args s _ _ _ h
 split at h1
 ·simp only [Vs,Wk] at h1
  obtain ⟨⟨rfl,rfl⟩,hz⟩:=h1
  have OY:cO P g args s d1 s1:=(h2 (by rw [hz];exact jA o trivial)).2
  refine ⟨OY.Cr,by rw [nD];exact OY.len,fun w0 M own w vs hw hu ha=>Calls.mono (OY.run w0 M own w vs hw hu ha) ?_⟩
  rintro e w' ⟨v,M',OH,rfl,q1,q2,q3,q4⟩
  exact ⟨v,M',OH,rfl,q1.sub (fun i=>wo bn s1 0 i),by rw [nD];exact q2,q3,q4⟩
 ·cases h1
theorem cO.cast {g:FuncId} {args:List D} {s:List Ob} {d d':D} {s1 s2:List Ob} (h:cO P g args s d s1) (h1:d=d') (h2:s1=s2):cO P g args s d' s2:=h1▸h2▸h
end
variable {P:Program}
def JR (s:List Ob) (id sz n:Nat):Option D:=match s.getD id .dead with
  | .box cs=>match Nat.beq cs.length (n*sz)&&cs.all D.clean&&cs.all (fun c=>storable c.aJ) with
    |true=>some (.aj .no sz (rows sz n (cs.map D.aJ)))
    |false=>none
  |_=>none
def JV (P:Program) (fn:Func) (args:List D) (o:List (Ev P)):Option (D×Prop):=
  rM P (pL P 20) fn args [] ⟨o,True⟩ fun d s z=>match d with
    | .aM (.bR id sz n::r)=>match JR s id sz n with
      |some x=>fU (r.all D.clean) (match z.o with| []=>some (.aM (x::r.map D.aJ),z.c)|_=>none)
      |none=>none
    |_=>none
def JU (P:Program) (fn:Func) (args:List D) (o:List (Ev P)):Option ((D×List Ob)×Prop):=
  rM P (pL P 20) fn args [] ⟨o,True⟩ fun d s z=>match z.o with| []=>some ((d,s),z.c)|_=>none
def Nx (s:List Ob) (d:D):Option D:=match d with
  | .aM (.bR id sz n::r)=>match JR s id sz n with
    |some x=>some (.aM (x::r.map D.aJ))
    |none=>none
  |_=>none
end Go.Ev
