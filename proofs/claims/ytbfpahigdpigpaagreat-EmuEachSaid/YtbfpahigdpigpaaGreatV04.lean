import Derived.LoopN
import Derived.LoopNIn
import Derived.Scope
import Derived.RangeFuncRecord
import Derived.Test.YtbfpahigdpigpaaGreatV02
import Derived.Test.YtbfpahigdpigpaaGreatV03
open Bool renaming and_eq_true→ZD,or_eq_true→ZV,not_eq_true'→Z8
open Option.some renaming inj→ZE,injEq→ZK
open List renaming getD_eq_getElem?_getD→ZF,getElem?_eq_none→ZN,length_append→ZR,getElem?_map→ZU,mem_of_getElem? →Z1,all_eq_true→aab,getElem?_cons_zero→aat,length_set→aaz,getElem?_cons_succ→aaC,length_singleton→aaJ,mem_cons→aaR
open Nat renaming le_refl→ZP,lt_or_ge→ZY,beq_eq→Z3,zero_add→aan,ble_eq→aaF,ble→aaP,le_trans→aaS
open Option renaming map_eq_some_iff→ZS,bind_some→aaW
open Go.Sem renaming run_bind→ZW,run_pure→Z4
open Prod.mk renaming injEq→aaB
/- Contracts and plain laws that a statement's proof leans on (texts merged:EvQ,EvP). -/
set_option linter.unusedVariables false
set_option linter.unusedSimpArgs false
namespace Go.Ev
open Go Go.RowKit
theorem lL {i:Nat} :∀ {l:List Nat},jQ i l=true↔i∈l
 | []=>by simp [jQ]
 |a::r=>by
  unfold jQ
  split
  ·rename_i h;rw [Z3] at h;subst h;simp
  ·rename_i h
   rw [lL]
   have:a≠i:=fun e=>by subst e;simp at h
   simp [Ne.symm this]
theorem MM.m8 {M M':MM} (h:M.Le M') (n:Nat):(M.cut n).Le (M'.cut n):=by
 refine ⟨h.cell,fun i b k=> ?_,fun i v b k=> ?_,h.fW⟩
 ·simp only [MM.cut] at k ⊢
  split at k
  ·rename_i q;rw [if_pos q];exact h.box _ _ k
  ·cases k
 ·simp only [MM.cut] at k ⊢
  split at k
  ·rename_i q;rw [if_pos q];exact h.b9 _ _ _ k
  ·cases k
theorem MM.mh {M:MM} {n:Nat} :((M.cut n).cut n)=M.cut n:=by
 unfold MM.cut
 congr 1
 ·funext i;by_cases h:i<n<;>simp [h]
 ·funext i v;by_cases h:i<n<;>simp [h]
theorem MM.Pn {M:MM} {n:Nat} (h:M.upto n):M.Le (M.cut n):=by
 refine ⟨fun _ _ _ h=>h,fun i b k=> ?_,fun i v b k=> ?_,fun _ h=>h⟩
 ·simp only [MM.cut]
  split
  ·exact k
  ·rw [h.1 i (by omega)] at k;cases k
 ·simp only [MM.cut]
  split
  ·exact k
  ·rw [h.2 i v (by omega)] at k;cases k
theorem ky (n:Nat):∀l:List D,mD n l=l.all (oe n)
 | []=>by simp [mD]
 |d::r=>by simp [mD,ky n r]
theorem cj.cut {M:MM} {d:D} {v:Value} (h:cj M d v):∀ {n:Nat},oe n d=true→cj (M.cut n) d v:=by
 induction h with
 |undef v=>exact fun _=> .undef v
 |int k n=>exact fun _=> .int k n
 |bool b=>exact fun _=> .bool b
 |str s=>exact fun _=> .str s
 |gA=>exact fun _=> .gA
 |ptr q h=>intro n c;simp only [oe,Nat.blt_eq] at c;exact .ptr q (by simp only [MM.cut,c,if_true];exact h)
 |eY q vs hx hc hr ih=>intro n c;exact .eY q vs hx hc hr
 |gw h=>intro n c;simp only [oe,Nat.blt_eq] at c;exact .gw (by simp only [MM.cut,c,if_true];exact h)
 |jM h=>intro n c;simp only [oe,Nat.blt_eq] at c;exact .jM (by simp only [MM.cut,c,if_true];exact h)
 |dz h hh hc=>intro n c;simp only [oe,Nat.blt_eq] at c;exact .dz (by simp only [MM.cut,c,if_true];exact h) (by simp only [MM.cut,c,if_true];exact hh) hc
 |sub h hc hp ho=>intro n c;simp only [oe,Nat.blt_eq] at c;exact .sub (by simp only [MM.cut,c,if_true];exact h) hc hp ho
 |bc b off vs hl Tm ha Tw hc hr Ty ho ih=>
  intro n c
  refine .bc b off vs hl Tm ha Tw hc hr Ty ?_
  rename_i M o _ _ _ _ _
  cases o with
  |tok t v=>simp only [oe,Nat.blt_eq] at c;simp only [MM.pX,MM.cut,c,if_true];exact ho
  |no=>trivial
  |fresh k=>trivial
  |tight=>exact ho
 |cg=>exact fun _=> .cg
 |fn h1 h2 r1 r2 i1 i2=>
  intro n c
  rw [oe,ky,ky,ZD,aab,aab] at c
  exact .fn h1 h2 (fun i d v a b=>i1 i d v a b (c.1 _ (Z1 a))) (fun i d v a b=>i2 i d v a b (c.2 _ (Z1 a)))
 |agg h r ih=>
  intro n c
  rw [oe,ky,aab] at c
  exact .agg h (fun i d v a b=>ih i d v a b (c _ (Z1 a)))
 |aL h r ih=>
  intro n c
  rw [oe,ky,aab] at c
  exact .aL h (fun i d v a b=>ih i d v a b (c _ (Z1 a)))
theorem qb {s:List Ob} {size id:Nat} {d d':D} {o:Option Nat} {ob:Ob} (h:s7 s size id d=some (d',o,ob)):
  (∃fl sz xs,d= .bc fl sz xs∧d'= .bc (.tok id 0) size xs∧ob= .ey 0 size∧(sz=size∨xs= [])∧((fl= .tight∧o=none)∨∃i v,fl= .tok i v∧o=some i∧s.getD i .dead= .ey v size))∨
  (∃i n cs,d= .dz i size n∧d'= .dz id size n∧o=some i∧s.getD i .dead= .box cs∧ob= .box (cs.map D.bn)):=by
 unfold s7 at h
 split at h
 ·rename_i sz xs
  split at h
  ·rename_i hk
   simp only [ZK,aaB] at h
   obtain ⟨rfl,rfl,rfl⟩:=h
   simp only [uw,ZV,Z3,List.isEmpty_iff] at hk
   exact .inl ⟨_,sz,xs,rfl,rfl,rfl,hk,.inl ⟨rfl,rfl⟩⟩
  ·cases h
 ·rename_i i v sz xs
  split at h
  ·rename_i v' Un hs
   split at h
   ·rename_i hk
    simp only [ZK,aaB] at h
    obtain ⟨rfl,rfl,rfl⟩:=h
    simp only [uw,ZV,ZD,Z3,List.isEmpty_iff] at hk
    obtain ⟨rfl,rfl,hk⟩:=hk
    exact .inl ⟨_,sz,xs,rfl,rfl,rfl,hk,.inr ⟨i,v',rfl,rfl,hs⟩⟩
   ·cases h
  ·cases h
 ·rename_i i sz n
  split at h
  ·rename_i cs hs
   split at h
   ·rename_i hk
    rw [Z3] at hk
    subst hk
    simp only [ZK,aaB] at h
    obtain ⟨rfl,rfl,rfl⟩:=h
    exact .inr ⟨i,n,cs,rfl,rfl,rfl,hs,rfl⟩
   ·cases h
  ·cases h
 ·cases h
theorem ve {t:List D} {s:List Ob} :∀ {fs:List (Nat×Nat)} {id:Nat} {used:List (Option Nat)} {new:List Ob},AL t s fs id=some (used,new)→
  (used.length=fs.length∧new.length=fs.length)∧∀(j k size:Nat),fs[j]? =some (k,size)→∃d' o ob,s7 s size (id+j) (ju t s k)=some (d',o,ob)∧used[j]? =some o∧new[j]? =some ob
 | [],id,used,new,h=>by
  simp only [AL,ZK,aaB] at h
  obtain ⟨rfl,rfl⟩:=h
  exact ⟨⟨rfl,rfl⟩,fun j k size h=>by simp at h⟩
 |(k,size)::r,id,used,new,h=>by
  simp only [AL] at h
  split at h
  ·rename_i d' o ob l O3 h1 h2
   simp only [ZK,aaB] at h
   obtain ⟨rfl,rfl⟩:=h
   obtain ⟨k1,k2⟩:=ve h2
   refine ⟨by simp [k1.1,k1.2],fun j k' Xt hj=> ?_⟩
   cases j with
   |zero=>
    simp only [aat,ZK,aaB] at hj
    obtain ⟨rfl,rfl⟩:=hj
    exact ⟨d',o,ob,h1,rfl,rfl⟩
   |succ j=>
    simp only [aaC] at hj
    obtain ⟨d2,o2,ob2,q1,q2,q3⟩:=k2 j k' Xt hj
    exact ⟨d2,o2,ob2,by rw [show id+(j+1)=id+1+j by omega];exact q1,by simpa using q2,by simpa using q3⟩
  ·cases h
theorem qg {i:Nat} :∀ {fs:List (Nat×Nat)} {id Wi size:Nat},findF i fs id=some (Wi,size)→∃j,Wi=id+j∧fs[j]? =some (i,size)
 | [],id,Wi,size,h=>by simp [findF] at h
 |(k,sz)::r,id,Wi,size,h=>by
  simp only [findF] at h
  split at h
  ·rename_i hk
   rw [Z3] at hk
   simp only [ZK,aaB] at h
   obtain ⟨rfl,rfl⟩:=h
   exact ⟨0,rfl,by simp [hk]⟩
  ·obtain ⟨j,h1,h2⟩:=qg h
   exact ⟨j+1,by omega,by simpa using h2⟩
theorem HW {i:Nat} {fs:List (Nat×Nat)} {n0 id size:Nat} (h:Lj i fs n0=some (id,size)):i<eI∧findF i fs n0=some (id,size):=by
 unfold Lj at h
 split at h
 ·cases h
 ·rename_i hb
  refine ⟨?_,h⟩
  rcases ZY i eI with q|q
  ·exact q
  ·rw [Nat.ble_eq_true_of_le q] at hb;cases hb
theorem HX {i j:Nat} {fs:List (Nat×Nat)} {n0 id size:Nat} (h:Fv i j fs n0=some (id,size)):j<1000∧findF (eI+i*1000+j) fs n0=some (id,size):=by
 unfold Fv at h
 split at h
 ·rename_i hb
  exact ⟨by rw [Nat.blt_eq] at hb;exact hb,h⟩
 ·cases h
theorem se {sp:HS} {n0:Nat} {s:List Ob} :∀ {t:List D} {i:Nat} {t':List D},sf sp n0 s i t=some t'→
  t'.length=t.length∧∀k d d',t[k]? =some d→t'[k]? =some d'→Jm sp n0 s (i+k) d=some d'
 | [],i,t',h=>by
  simp only [sf,ZK] at h
  subst h
  exact ⟨rfl,fun k d d' h=>by simp at h⟩
 |d::r,i,t',h=>by
  simp only [sf] at h
  split at h
  ·rename_i d1 l h1 h2
   obtain rfl:=ZE h
   obtain ⟨k1,k2⟩:=se h2
   refine ⟨by simp [k1],fun k d2 d3 a b=> ?_⟩
   cases k with
   |zero=>simp at a b;subst a b;exact h1
   |succ k=>
    simp at a b
    rw [show i+(k+1)=i+1+k by omega]
    exact k2 k d2 d3 a b
  ·cases h
theorem tJ {sp:HS} {n0:Nat} {s:List Ob} {i:Nat} :∀ {cs:List D} {j:Nat} {TT:List D},ql sp n0 s i j cs=some TT→
  TT.length=cs.length∧∀(k:Nat) (d d':D),cs[k]? =some d→TT[k]? =some d'→(∃id size o ob,Fv i (j+k) sp.nR n0=some (id,size)∧s7 s size id d=some (d',o,ob))∨(oe n0 d=true∧d'=d)
 | [],j,TT,h=>by
  simp only [ql,ZK] at h
  subst h
  exact ⟨rfl,fun k d d' h=>by simp at h⟩
 |a::r,j,TT,h=>by
  rw [ql] at h
  split at h
  ·rename_i d1 l h1 h2
   obtain rfl:=ZE h
   obtain ⟨k1,k2⟩:=tJ h2
   refine ⟨by simp [k1],fun k d d' p q=> ?_⟩
   cases k with
   |zero=>
    simp at p q
    subst p q
    split at h1
    ·rename_i id size hf
     split at h1
     ·rename_i d2 o hg
      obtain rfl:=ZE h1
      exact .inl ⟨id,size,o.1,o.2,hf,hg⟩
     ·cases h1
    ·split at h1
     ·rename_i Ur
      exact .inr ⟨Ur,(ZE h1).symm⟩
     ·cases h1
   |succ k=>
    simp at p q
    rw [show j+(k+1)=j+1+k by omega]
    exact k2 k d d' p q
  ·cases h
theorem Ay {sp:HS} {n0:Nat} {s0:List Ob} {used:List (Option Nat)} {new:List Ob} :∀ {n i:Nat} {s s':List Ob},G4 sp n0 s0 used new n i s=some s'→
  ∃l,s'=l++new∧l.length=n∧∀k o,l[k]? =some o→∃o0,s[k]? =some o0∧Q6 sp n0 s0 used (i+k) o0=some o
 |0,i,s,s',h=>by
  simp only [G4,ZK] at h
  exact ⟨[],by simp [h],rfl,fun k o h=>by simp at h⟩
 |n+1,i,[],s',h=>by simp [G4] at h
 |n+1,i,o::r,s',h=>by
  simp only [G4] at h
  split at h
  ·rename_i o' l h1 h2
   obtain rfl:=ZE h
   obtain ⟨l',rfl,k2,k3⟩:=Ay h2
   refine ⟨o'::l',rfl,by simp [k2],fun k o2 hk=> ?_⟩
   cases k with
   |zero=>simp at hk;subst hk;exact ⟨o,rfl,h1⟩
   |succ k=>
    simp at hk
    obtain ⟨o0,q1,q2⟩:=k3 k o2 hk
    exact ⟨o0,by simpa using q1,by rw [show i+(k+1)=i+1+k by omega];exact q2⟩
  ·cases h
theorem pA {i:Nat} :∀ {l:List (Option Nat)},uA i l=true↔some i∈l
 | []=>by simp [uA]
 |none::r=>by simp [uA,pA]
 |some a::r=>by
  unfold uA
  split
  ·rename_i h;rw [Z3] at h;subst h;simp
  ·rename_i h
   rw [pA]
   have:a≠i:=fun e=>by subst e;simp at h
   simp [Ne.symm this]
def l4 (i:Nat):List (Option Nat)→Nat→Option Nat
  | [],_=>none
  |none::r,id=>l4 i r (id+1)
  |some a::r,id=>if a=i then some id else l4 i r (id+1)
theorem jd {i:Nat} :∀ {l:List (Option Nat)} {id:Nat},some i∉l→l4 i l id=none
 | [],id,_=>rfl
 |none::r,id,h=>by simp only [l4];exact jd (by simpa using h)
 |some a::r,id,h=>by
  simp only [aaR,ZK,not_or] at h
  simp only [l4,if_neg (Ne.symm h.1)]
  exact jd h.2
theorem nB {i:Nat} :∀ {l:List (Option Nat)} {id j:Nat},vr l=true→l[j]? =some (some i)→l4 i l id=some (id+j)
 | [],id,j,_,h=>by simp at h
 |none::r,id,j,hd,h=>by
  simp only [vr] at hd
  simp only [l4]
  cases j with
  |zero=>simp at h
  |succ j=>rw [show id+(j+1)=id+1+j by omega];exact nB hd (by simpa using h)
 |some a::r,id,j,hd,h=>by
  simp only [vr,ZD,Z8] at hd
  simp only [l4]
  cases j with
  |zero=>simp at h;simp [h]
  |succ j=>
   have hm:some i∈r:=Z1 (by simpa using h)
   have:a≠i:=fun e=>by subst e;rw [pA.2 hm] at hd;simp at hd
   rw [if_neg this,show id+(j+1)=id+1+j by omega]
   exact nB hd.2 (by simpa using h)
def sY (sp:HS) (t:List D) (s:List Ob):Prop:= ∀cs∈xU sp t s,∀c∈cs,c.clean=true
theorem og {s:List Ob} {i:Nat} {cs:List D} (h:s.getD i .dead= .box cs):∀ {l:List Nat},jQ (eI+i) l=true→cs∈qa s l
 | [],h1=>by simp [jQ] at h1
 |o::r,h1=>by
  rw [lL] at h1
  rcases aaR.1 h1 with e|e
  ·rw [qa,← e,show aaP eI (eI+i)=true by rw [aaF];omega]
   simp only []
   rw [show eI+i - eI=i by omega,FF,h]
   simp
  ·rw [qa]
   split
   ·exact List.mem_append_right _ (og h (lL.2 e))
   ·exact og h (lL.2 e)
theorem s6 {t:List D} {s:List Ob} {k size i sz n:Nat} {cs:List D} (hr:ju t s k= .dz i sz n) (h:s.getD i .dead= .box cs):∀ {l:List (Nat×Nat)} {j:Nat},l[j]? =some (k,size)→cs∈xW t s l
 | [],j,h1=>by simp at h1
 |(k',z)::r,j,h1=>by
  rw [xW]
  cases j with
  |zero=>
   simp only [aat,ZK,aaB] at h1
   obtain ⟨rfl,rfl⟩:=h1
   rw [hr]
   simp only [FF,h]
   simp
  |succ j=>exact List.mem_append_right _ (s6 hr h (by simpa using h1))
theorem sZ {t:List D} {i:Nat} {cs:List D} (h:t.getD i .undef= .agg cs):∀ {l:List Nat},jQ (eI+i) l=true→cs∈xV t l
 | [],q=>by cases q
 |o::r,q=>by
  rw [xV]
  rcases aaR.1 (lL.1 q) with e|e
  ·rw [← e,show aaP eI (eI+i)=true by rw [aaF];omega,show eI+i - eI=i by omega,h]
   simp
  ·exact List.mem_append_right _ (sZ h (lL.2 e))
theorem re {sp:HS} {n0:Nat} {s:List Ob} {used:List (Option Nat)} {i:Nat} {o0 o:Ob} (h:Q6 sp n0 s used i o0=some o) (hd:o≠ .dead):some i∉used∧
  ((∃cs,o0= .box cs∧o= .box (cs.map D.bn)∧jQ (eI+i) sp.O3=true)∨(∃cs,o0= .box cs∧o= .box cs∧mD n0 cs=true)∨(∃cs TT,o0= .box cs∧o= .box TT∧ql sp n0 s i 0 cs=some TT)∨
   (∃k t ps ag bd,o0= .lp k t ps ag bd∧o= .lp k t ps ag bd∧mD n0 t=true)∨(o=o0∧(∀cs,o≠ .box cs)∧∀k t ps ag bd,o≠ .lp k t ps ag bd)):=by
 have nu:∀ {b:Bool},(b&& !uA i used)=true→some i∉used:=fun {b} hk hm=>by
  simp only [ZD,Z8] at hk
  rw [pA.2 hm] at hk
  simp at hk
 unfold Q6 at h
 split at h
 ·rename_i hk
  refine ⟨nu hk,?_⟩
  split at h
  ·rename_i cs
   simp only [ZD] at hk
   exact .inl ⟨cs,rfl,(ZE h).symm,hk.1⟩
  ·cases h
 ·split at h
  ·exact absurd (ZE h).symm hd
  ·rename_i hk
   refine ⟨nu hk,?_⟩
   split at h
   ·rename_i cs
    split at h
    ·rename_i TT hc
     exact .inr (.inr (.inl ⟨cs,TT,rfl,(ZE h).symm,hc⟩))
    ·cases h
   ·rename_i k t ps ag bd
    split at h
    ·rename_i Ur
     exact .inr (.inr (.inr (.inl ⟨k,t,ps,ag,bd,rfl,(ZE h).symm,Ur⟩)))
    ·cases h
   ·rename_i h1 h2
    obtain rfl:=ZE h
    exact .inr (.inr (.inr (.inr ⟨rfl,h1,h2⟩)))
theorem nH {sp:HS} {n0:Nat} {t t':List D} {s s':List Ob} (h:pz sp n0 t s=some (t',s')) (Vp:sY sp t s):
  (n0≤s'.length∧s'.length=n0+sp.nR.length)∧∀ {w0:eW} {M:MM} {own:Nat→Option Nat} {w:World} {tmps:Array Value},n0≤s.length→cn w0 M own (bP s) w→M.upto s.length→cA M t tmps→
   ∃M' Tj,cn w0 M' Tj (bP s') w∧M'.upto s'.length∧(M.cut n0).Le M'∧cA M' t' tmps:=by
 unfold pz at h
 split at h
 ·rename_i used new hu
  split at h
  ·rename_i WE
   split at h
   ·rename_i t1 s1 ht hs
    simp only [ZK,aaB] at h
    obtain ⟨rfl,rfl⟩:=h
    obtain ⟨l,rfl,hl,hob⟩:=Ay hs
    obtain ⟨ht1,VB⟩:=se ht
    obtain ⟨⟨Zb,hu2⟩,hgrow⟩:=ve hu
    have hlen:(l++new).length=n0+sp.nR.length:=by simp [hl,hu2]
    refine ⟨⟨by omega,hlen⟩,?_⟩
    intro w0 M own w tmps hn hw Vg Tn
    let rv:Nat→Value:=fun k=>match aaP eI k with
     |false=>tmps.getD k undef
     |true=>match M.box ((k - eI) / 1000) with
      |some b=>(w.cell? ⟨b,(k - eI)%1000,none⟩).getD undef
      |none=>undef
    have Xk:∀k,ju t s k≠ .undef→cj M (ju t s k) (rv k):=by
     intro k TU
     cases hb:aaP eI k with
     |false=>
      simp only [ju,rv,hb]
      exact ka Tn k
     |true=>
      simp only [ju,rv,hb] at TU ⊢
      split at TU
      ·rename_i cs Tv
       obtain ⟨b,vs,ty,kb⟩:=hw.box _ cs Tv
       have hc:∃d,cs[(k - eI)%1000]? =some d:=by
        cases e:cs[(k - eI)%1000]? with
        |none=>rw [ZF,e] at TU;exact absurd rfl TU
        |some d=>exact ⟨d,rfl⟩
       obtain ⟨d,hd⟩:=hc
       obtain ⟨u,h1,h2⟩:=nz kb.len kb.rep hd
       rw [kb.box,ZF,hd]
       simp only [World.cell?,kb.dQ,h1]
       exact h2
      ·exact absurd rfl TU
    let bxN:Nat→Option Nat:=fun j=>match sp.nR[j]? with
     |some (k,_)=>(match ju t s k with| .dz i _ _=>M.box i|_=>none)
     |none=>none
    let hdr:Nat→Nat→Option Value:=fun j v=>match sp.nR[j]? with
     |some (k,size)=>(match ju t s k with| .dz _ _ _=>(if v=size then some (rv k) else none)|_=>(if v=0 then some (rv k) else none))
     |none=>none
    let M':MM:=⟨M.cell,fun i=>if i<n0 then M.box i else bxN (i - n0),fun i v=>if i<n0 then M.b9 i v else hdr (i - n0) v,M.fW⟩
    let ren:Nat→Option Nat:=fun i=>match l4 i used n0 with|some k=>some k|none=>if i<n0 then some i else none
    let Tj:Nat→Option Nat:=fun b=>(own b).bind ren
    have hle:(M.cut n0).Le M':=by
     refine ⟨fun _ _ _ h=>h,fun i b k=> ?_,fun i v b k=> ?_,fun _ h=>h⟩
     ·simp only [MM.cut] at k
      split at k
      ·rename_i q;simp only [M',if_pos q];exact k
      ·cases k
     ·simp only [MM.cut] at k
      split at k
      ·rename_i q;simp only [M',if_pos q];exact k
      ·cases k
    have root:∀(j k size:Nat),sp.nR[j]? =some (k,size)→
      (∃fl sz xs a len cap o,ju t s k= .bc fl sz xs∧rv k= .slice a len cap∧used[j]? =some o∧new[j]? =some (.ey 0 size)∧(sz=size∨xs= [])∧cj M (.bc fl sz xs) (.slice a len cap)∧((fl= .tight∧o=none)∨∃i v,fl= .tok i v∧o=some i∧s.getD i .dead= .ey v size))∨
      (∃i n cs b cap,ju t s k= .dz i size n∧rv k= .slice (some ⟨b,0,none⟩) n cap∧used[j]? =some (some i)∧new[j]? =some (.box (cs.map D.bn))∧s.getD i .dead= .box cs∧M.box i=some b∧M.b9 i size=some (.slice (some ⟨b,0,none⟩) n cap)∧n≤cap∧∀c∈cs,c.clean=true):=by
     intro j k size hj
     obtain ⟨d',o,ob,h1,h2,h3⟩:=hgrow j k size hj
     rcases qb h1 with ⟨fl,sz,xs,q1,q2,rfl,q3,q4⟩|⟨i,n,cs,q1,q2,rfl,q3,rfl⟩
     ·have hr:=Xk k (by rw [q1];simp)
      rw [q1] at hr
      generalize hv:rv k=v at hr
      cases hr with
      |bc b off vs hl Tm ha Tw hc hr Ty ho=>
       exact .inl ⟨fl,sz,xs,_,_,_,o,q1,rfl,h2,h3,q3,.bc b off vs hl Tm ha Tw hc hr Ty ho,q4⟩
     ·have hr:=Xk k (by rw [q1];simp)
      rw [q1] at hr
      generalize hv:rv k=v at hr
      cases hr with
      |dz hb hh hc=>
       exact .inr ⟨i,n,cs,_,_,q1,rfl,h2,h3,q3,hb,hh,hc,Vp cs (List.mem_append_right _ (List.mem_append_left _ (s6 q1 q3 hj)))⟩
    have newAt:∀ {i:Nat} {o:Ob},bP (l++new) i=o→o≠ .dead→(i<n0∧l[i]? =some o)∨(n0≤i∧∃k size,sp.nR[i - n0]? =some (k,size)∧new[i - n0]? =some o):=by
     intro i o hi TU
     unfold bP at hi
     rcases ZY i l.length with Tq|Vz
     ·rw [ZF,List.getElem?_append_left Tq] at hi
      rw [List.getElem?_eq_getElem Tq] at hi ⊢
      exact .inl ⟨by omega,by simpa using hi⟩
     ·rw [ZF,List.getElem?_append_right Vz] at hi
      rw [hl] at hi Vz
      cases e:new[i - n0]? with
      |none=>rw [e] at hi;exact absurd hi.symm TU
      |some x=>
       rw [e] at hi
       simp only [Option.getD_some] at hi
       subst hi
       have Tq:i - n0<sp.nR.length:=by
        rw [← hu2]
        rcases ZY (i - n0) new.length with q|q
        ·exact q
        ·rw [ZN q] at e;cases e
       exact .inr ⟨Vz,sp.nR[i - n0].1,sp.nR[i - n0].2,by simp [Tq],rfl⟩
    have mI:∀ {i:Nat} {o0:Ob},s[i]? =some o0→bP s i=o0:=fun {i o0} h1=>by unfold bP;rw [ZF,h1];rfl
    have V5:∀ {j k size:Nat} {fl:lP} {sz:Nat} {xs:List D},sp.nR[j]? =some (k,size)→ju t s k= .bc fl sz xs→cj M (.bc fl sz xs) (rv k)→(sz=size∨xs= [])→cj M' (.bc (.tok (n0+j) 0) size xs) (rv k):=by
     intro j k size fl sz xs hj q1 hr q3
     refine cj.resize (sz:=sz) ?_ q3
     generalize hv:rv k=v at hr
     cases hr with
     |bc b off vs WH Tm ha Tw hc hr Ty ho=>
      refine .bc b off vs WH Tm ha Tw hc hr Ty ?_
      simp only [MM.pX,M',if_neg (show ¬n0+j<n0 by omega),hdr,show n0+j - n0=j by omega,hj,q1,if_true,hv]
    have VY:∀ {j k size i n b cap:Nat},sp.nR[j]? =some (k,size)→ju t s k= .dz i size n→rv k= .slice (some ⟨b,0,none⟩) n cap→M.box i=some b→n≤cap→cj M' (.dz (n0+j) size n) (rv k):=by
     intro j k size i n b cap hj q1 hv hb hc
     rw [hv]
     refine .dz (b:=b) ?_ ?_ hc
     ·simp only [M',if_neg (show ¬n0+j<n0 by omega),bxN,show n0+j - n0=j by omega,hj,q1];exact hb
     ·simp only [M',if_neg (show ¬n0+j<n0 by omega),hdr,show n0+j - n0=j by omega,hj,q1,if_true,hv]
    refine ⟨M',Tj,⟨hw.below,hw.cells,hw.mI,?_,?_,?_,?_,?_,hw.fW⟩,?_,hle,?_⟩
    ·intro b i k
     simp only [Tj] at k
     cases e:own b with
     |none=>rw [e] at k;cases k
     |some i'=>exact hw.owned b i' e
    ·
     intro i cs hi
     rcases newAt hi (by simp) with ⟨Tq,hli⟩|⟨Vz,k,size,hj,TP⟩
     ·obtain ⟨o0,h1,h2⟩:=hob i _ hli
      rw [aan] at h2
      obtain ⟨hnu,TV⟩:=re h2 (by simp)
      have kept:∀ {Vh:List D},o0= .box Vh→cs.length=Vh.length→(∀(b:Nat) (vs:Array Value) (ty:TypeId),tY w0 M own i Vh w b vs ty→∀(j:Nat) (d:D) (v:Value),cs[j]? =some d→vs[j]? =some v→cj M' d v)→∃b vs ty,tY w0 M' Tj i cs w b vs ty:=by
       intro Vh e YL VW
       subst e
       obtain ⟨b,vs,ty,k⟩:=hw.box i Vh (mI h1)
       refine ⟨b,vs,ty,by simp only [M',if_pos Tq];exact k.box,k.base,?_,k.none,k.dQ,by rw [YL];exact k.len,VW b vs ty k,fun sz a len cap q=>k.room sz a len cap (by simpa only [M',if_pos Tq] using q)⟩
       simp only [Tj,k.own,aaW,ren,jd hnu,if_pos Tq]
      rcases TV with ⟨Vh,rfl,e,hm⟩|⟨Vh,rfl,e,Ur⟩|⟨Vh,TT,rfl,e,hc⟩|⟨_,_,_,_,_,_,e,_⟩|⟨rfl,YR,_⟩
      ·obtain rfl:=Ob.box.inj e
       have W3:=Vp Vh (List.mem_append_left _ (og (mI h1) hm))
       refine kept rfl (by simp) fun b vs ty k j d v p q=> ?_
       rw [ZU,ZS] at p
       obtain ⟨d0,p0,rfl⟩:=p
       exact ((k.rep j d0 v p0 q).pQ (W3 _ (Z1 p0))).mono (MM.mj M')
      ·obtain rfl:=Ob.box.inj e
       rw [ky,aab] at Ur
       exact kept rfl rfl fun b vs ty k j d v p q=>((k.rep j d v p q).cut (Ur _ (Z1 p))).mono hle
      ·obtain rfl:=Ob.box.inj e
       obtain ⟨c1,c2⟩:=tJ hc
       refine kept rfl c1 fun b vs ty k j d v p q=> ?_
       have hj0:j<Vh.length:=by
        rw [← c1]
        rcases ZY j cs.length with h|h
        ·exact h
        ·rw [ZN h] at p;cases p
       have Yi:Vh[j]? =some Vh[j]:=by simp [hj0]
       rcases c2 j _ d Yi p with ⟨id,size,o,ob,hf,hg⟩|⟨Ur,rfl⟩
       ·rw [aan] at hf
        obtain ⟨hj1,hf⟩:=HX hf
        obtain ⟨jj,rfl,hjj⟩:=qg hf
        obtain ⟨d2,o2,ob2,hg2,hu3,hn3⟩:=hgrow jj _ size hjj
        have e1:(eI+i*1000+j - eI) / 1000=i:=by omega
        have e2:(eI+i*1000+j - eI)%1000=j:=by omega
        have Yf:aaP eI (eI+i*1000+j)=true:=by rw [aaF];omega
        have Uw:ju t s (eI+i*1000+j)=Vh[j]:=by
         simp only [ju,Yf,e1,e2]
         rw [show s.getD i .dead= .box Vh from mI h1]
         simp only []
         rw [ZF,Yi]
         rfl
        have TI:rv (eI+i*1000+j)=v:=by
         simp only [rv,Yf,e1,e2]
         rw [k.box]
         simp only [World.cell?,k.dQ,q]
         rfl
        rcases qb hg with ⟨fl,sz,xs,q1,rfl,_,q3,_⟩|⟨i',n,TT,q1,rfl,_,q3,_⟩
        ·have hr:=V5 hjj (Uw.trans q1) (by rw [TI,← q1];exact k.rep j _ v Yi q) q3
         rw [TI] at hr
         exact hr
        ·rcases root jj _ size hjj with ⟨_,_,_,_,_,_,_,r1,_⟩|⟨i2,n2,VD,b2,cap2,r1,r2,_,_,_,r3,_,r4,_⟩
         ·rw [Uw,q1] at r1;cases r1
         ·rw [Uw,q1] at r1
          cases r1
          have hr:=VY hjj (Uw.trans q1) r2 r3 r4
          rw [TI] at hr
          exact hr
       ·exact ((k.rep j _ v Yi q).cut Ur).mono hle
      ·cases e
      ·exact absurd rfl (YR cs)
     ·rcases root _ k size hj with ⟨_,_,_,_,_,_,_,_,_,_,r,_⟩|⟨i',n,Vh,b,cap,q1,q2,q3,q4,q5,q6,q7,q8,q9⟩
      ·rw [TP] at r;cases r
      ·rw [TP] at q4
       obtain rfl:=Ob.box.inj (ZE q4)
       obtain ⟨b2,vs,ty,kb⟩:=hw.box i' Vh q5
       obtain rfl:b2=b:=by have:=kb.box;rw [q6] at this;exact (ZE this).symm
       have Za:¬i<n0:=by omega
       refine ⟨b2,vs,ty,?_,kb.base,?_,kb.none,kb.dQ,by simpa using kb.len,fun j d v p q=> ?_,fun sz a len TQ q=> ?_⟩
       ·simp only [M',if_neg Za,bxN,hj,q1];exact q6
       ·simp only [Tj,kb.own,aaW,ren,nB WE q3]
        congr 1
        omega
       ·rw [ZU,ZS] at p
        obtain ⟨d0,p0,rfl⟩:=p
        exact ((kb.rep j d0 v p0 q).pQ (q9 _ (Z1 p0))).mono (MM.mj M')
       ·simp only [M',if_neg Za,hdr,hj,q1] at q
        split at q
        ·rename_i e
         subst e
         rw [q2] at q
         obtain ⟨rfl,rfl,rfl⟩:=Value.slice.inj (ZE q)
         exact kb.room _ _ _ _ q7
        ·cases q
    ·
     intro i ver sz hi
     rcases newAt hi (by simp) with ⟨Tq,hli⟩|⟨Vz,k,size,hj,TP⟩
     ·obtain ⟨o0,h1,h2⟩:=hob i _ hli
      rw [aan] at h2
      obtain ⟨hnu,TV⟩:=re h2 (by simp)
      have ho:o0= .ey ver sz:=by
       rcases TV with ⟨_,_,e,_⟩|⟨_,_,e,_⟩|⟨_,_,_,e,_⟩|⟨_,_,_,_,_,_,e,_⟩|⟨rfl,_⟩
       ·cases e
       ·cases e
       ·cases e
       ·cases e
       ·rfl
      subst ho
      obtain ⟨a,len,cap,k⟩:=hw.ey i ver sz (mI h1)
      refine ⟨a,len,cap,by simp only [M',if_pos Tq];exact k.b9,fun v hv=>by simp only [M',if_pos Tq];exact k.last v hv,?_⟩
      rcases k.room with q|⟨b,vs,ty,fz,ha,r⟩
      ·exact .inl q
      ·refine .inr ⟨b,vs,ty,fz,ha,r.base,?_,r.dQ,r.fz,r.cap,r.none⟩
       simp only [Tj,r.own,aaW,ren,jd hnu,if_pos Tq]
     ·have Xy:¬i<n0:=by omega
      rcases root _ k size hj with ⟨fl,YI,xs,a,len,cap,o,q1,q2,q3,q4,q5,q6,q7⟩|⟨_,_,_,_,_,_,_,_,r,_⟩
      ·rw [TP] at q4
       obtain ⟨rfl,rfl⟩:=Ob.ey.inj (ZE q4)
       refine ⟨a,len,cap,?_,fun v hv=> ?_,?_⟩
       ·simp only [M',if_neg Xy,hdr,hj,q1,if_true,q2]
       ·simp only [M',if_neg Xy,hdr,hj,q1,if_neg (show ¬v=0 by omega)]
       ·cases q6 with
        |bc b off vs WH Tm ha Tw hc hr Ty ho=>
         rcases q7 with ⟨rfl,rfl⟩|⟨i',v,rfl,rfl,hs'⟩
         ·exact .inl ho
         ·obtain ⟨a',Ts,TQ,k2⟩:=hw.ey i' v _ hs'
          have:M.b9 i' v=some _:=ho
          rw [k2.b9] at this
          obtain ⟨rfl,rfl,rfl⟩:=Value.slice.inj (ZE this)
          rcases k2.room with q|⟨b,vs,ty,fz,ha,r⟩
          ·exact .inl q
          ·refine .inr ⟨b,vs,ty,fz,ha,r.base,?_,r.dQ,r.fz,r.cap,r.none⟩
           simp only [Tj,r.own,aaW,ren,nB WE q3]
           congr 1
           omega
      ·rw [TP] at r;cases r
    ·
     intro i F hi
     obtain ⟨o,XJ⟩:∃o,bP (l++new) i=o:=⟨_,rfl⟩
     rw [XJ] at hi
     have nb:∀cs,o≠ .box cs:=fun cs e=>by rw [e] at hi;cases hi
     have nd:o≠ .dead:=fun e=>by rw [e] at hi;cases hi
     have nf:∀v sz,o≠ .ey v sz:=fun v sz e=>by rw [e] at hi;cases hi
     have nl:∀k t ps ag bd,o≠ .lp k t ps ag bd:=fun k t ps ag bd e=>by rw [e] at hi;cases hi
     rcases newAt XJ nd with ⟨Tq,hli⟩|⟨Vz,k,size,hj,TP⟩
     ·obtain ⟨o0,h1,h2⟩:=hob i _ hli
      rw [aan] at h2
      obtain ⟨hnu,TV⟩:=re h2 nd
      have ho:o0=o:=by
       rcases TV with ⟨_,_,e,_⟩|⟨_,_,e,_⟩|⟨_,_,_,e,_⟩|⟨_,_,_,_,_,_,e,_⟩|⟨rfl,_⟩
       ·exact absurd e (nb _)
       ·exact absurd e (nb _)
       ·exact absurd e (nb _)
       ·exact absurd e (nl _ _ _ _ _)
       ·rfl
      subst ho
      obtain ⟨b,Tt,clock,k⟩:=hw.mp i F (by rw [mI h1];exact hi)
      refine ⟨b,Tt,clock,by simp only [M',if_pos Tq];exact k.box,k.base,?_,k.none,k.dQ,k.fits⟩
      simp only [Tj,k.own,aaW,ren,jd hnu,if_pos Tq]
     ·rcases root _ k size hj with ⟨_,_,_,_,_,_,_,_,_,_,r,_⟩|⟨_,_,_,_,_,_,_,_,r,_⟩<;>rw [TP] at r<;>obtain rfl:=ZE r
      ·exact absurd rfl (nf _ _)
      ·exact absurd rfl (nb _)
    ·
     intro i kk tt ps ag bd hi
     rcases newAt hi (by simp) with ⟨Tq,hli⟩|⟨Vz,k,size,hj,TP⟩
     ·obtain ⟨o0,h1,h2⟩:=hob i _ hli
      rw [aan] at h2
      obtain ⟨hnu,TV⟩:=re h2 (by simp)
      have ho:o0= .lp kk tt ps ag bd∧mD n0 tt=true:=by
       rcases TV with ⟨_,_,e,_⟩|⟨_,_,e,_⟩|⟨_,_,_,e,_⟩|⟨_,_,_,_,_,rfl,e,Ur⟩|⟨_,_,Xf⟩
       ·cases e
       ·cases e
       ·cases e
       ·cases e;exact ⟨rfl,Ur⟩
       ·exact absurd rfl (Xf _ _ _ _ _)
      obtain ⟨rfl,Ur⟩:=ho
      rw [ky,aab] at Ur
      obtain ⟨b,r,k⟩:=hw.lp i kk tt ps ag bd (mI h1)
      refine ⟨b,r,by simp only [M',if_pos Tq];exact k.box,k.base,?_,k.dQ,k.st,k.pd,⟨k.tm.1,fun j d v p q=>((k.tm.2 j d v p q).cut (Ur _ (Z1 p))).mono hle⟩,k.ps,k.ag,k.bd⟩
      simp only [Tj,k.own,aaW,ren,jd hnu,if_pos Tq]
     ·rcases root _ k size hj with ⟨_,_,_,_,_,_,_,_,_,_,r,_⟩|⟨_,_,_,_,_,_,_,_,r,_⟩<;>rw [TP] at r<;>cases r
    ·
     refine ⟨fun id T1=> ?_,fun id v T1=> ?_⟩
     ·simp only [M',if_neg (show ¬id<n0 by omega),bxN]
      rw [ZN (by omega)]
     ·simp only [M',if_neg (show ¬id<n0 by omega),hdr]
      rw [ZN (by omega)]
    ·
     refine ⟨by rw [ht1];exact Tn.1,fun i d' v p q=> ?_⟩
     have Zo:i<t.length:=by
      rcases ZY i t.length with h|h
      ·exact h
      ·rw [ZN (by omega)] at p;cases p
     have hd:t[i]? =some t[i]:=by simp [Zo]
     have U8:=VB i _ d' hd p
     rw [aan] at U8
     unfold Jm at U8
     split at U8
     ·rename_i id size hf
      split at U8
      ·rename_i d2 o hg
       obtain rfl:=ZE U8
       obtain ⟨hbi,hf⟩:=HW hf
       obtain ⟨j,rfl,hj⟩:=qg hf
       ·have Zg:aaP eI i=false:=by
         cases e:aaP eI i with
         |false=>rfl
         |true=>rw [aaF] at e;omega
        have Uw:ju t s i=t[i]:=by
         simp only [ju,Zg]
         rw [ZF,hd]
         rfl
        have TI:rv i=v:=by
         simp only [rv,Zg]
         rw [Array.getD_eq_getD_getElem?,q]
         rfl
        rcases qb hg with ⟨fl,sz,xs,q1,rfl,_,q3,_⟩|⟨i',n,TT,q1,rfl,_,q3,_⟩
        ·have hr:=V5 hj (Uw.trans q1) (by rw [TI,← q1];exact Tn.2 i _ v hd q) q3
         rw [TI] at hr
         exact hr
        ·rcases root j _ size hj with ⟨_,_,_,_,_,_,_,r1,_⟩|⟨i2,n2,VD,b2,cap2,r1,r2,_,_,_,r3,_,r4,_⟩
         ·rw [Uw,q1] at r1;cases r1
         ·rw [Uw,q1] at r1
          cases r1
          have hr:=VY hj (Uw.trans q1) r2 r3 r4
          rw [TI] at hr
          exact hr
      ·cases U8
     ·split at U8
      ·split at U8
       ·rename_i Ur
        obtain rfl:=ZE U8
        exact ((Tn.2 i _ v hd q).cut Ur).mono hle
       ·cases U8
      ·split at U8
       ·rename_i hm
        split at U8
        ·rename_i cs Tv
         obtain rfl:=ZE U8
         have Tv:t[i]= .agg cs:=Tv
         have hc:=Vp cs (List.mem_append_right _ (List.mem_append_right _ (sZ (by rw [ZF,hd];exact Tv) hm)))
         have hr:=(Tn.2 i _ v hd q)
         rw [Tv] at hr
         have hb:=hr.pQ (by rw [D.clean,D.kg,aab];exact hc)
         rw [D.bn,D.gO] at hb
         exact hb.mono (MM.mj M')
        ·cases U8
       ·obtain rfl:=ZE U8
        exact .undef v
   ·cases h
  ·cases h
 ·cases h
section
variable {P:Program}
inductive cX (P:Program) (c:Code) (n0:Nat):List D→List Ob→Ex→List D→List Ob→Prop
  |out {t:List D} {s:List Ob} {ex:Ex} {t1 t':List D} {s1 s':List Ob} (sp:HS) (h:mw P c t s ex t1 s1) (hx:ex≠ .norm) (hh:pz sp n0 t1 s1=some (t',s')) (Vp:sY sp t1 s1):cX P c n0 t s ex t' s'
  |again {t:List D} {s:List Ob} {t1 t2:List D} {s1 s2:List Ob} {ex:Ex} {t':List D} {s':List Ob} (sp:HS) (h:mw P c t s .norm t1 s1) (hh:pz sp n0 t1 s1=some (t2,s2)) (Vp:sY sp t1 s1) (k:cX P c n0 t2 s2 ex t' s'):cX P c n0 t s ex t' s'
theorem cX.depth {c:Code} {n0:Nat} {t:List D} {s:List Ob} {ex:Ex} {t':List D} {s':List Ob} (h:cX P c n0 t s ex t' s'):n0≤s.length→n0≤s'.length∧
  ∃n,∀(rr:Option Nat) (K:Nat→Prop) (w0:eW) (M:MM) (own:Nat→Option Nat) (w:World) (a:Act) (L:MM),L.Le (M.cut n0)→cn w0 M own (bP s) w→M.upto s.length→cA M t a.tmps→iL K M a.defers→
   Code.roundsIn (FW rr) 0 P c (fun e a' w'=>ex.is e∧∃M' Tj,cn w0 M' Tj (bP s') w'∧M'.upto s'.length∧L.Le M'∧cA M' t' a'.tmps∧iL K M' a'.defers) n a w:=by
 induction h with
 |out sp h hx hh Vp=>
  intro hn
  obtain ⟨hl,hhead⟩:=nH hh Vp
  refine ⟨hl.1,1,fun rr K w0 M own w a L le hw hu ht hd=> ?_⟩
  rw [roundsIn_succ]
  refine wpIn_mono (h.run rr (fun e=>by cases e) K w0 M own w a hw hu ht hd) ?_
  rintro e a' w' ⟨h0,M1,own1,q1,q2,q3,q4,q5⟩
  obtain ⟨M2,Uq,r1,r2,r3,r4⟩:=hhead (aaS hn h.len) q1 q2 q4
  have fin:∃M' Tj,cn w0 M' Tj (bP _) w'∧M'.upto _∧L.Le M'∧cA M' _ a'.tmps∧iL K M' a'.defers:=⟨M2,Uq,r1,r2,(le.trans (MM.m8 q3 n0)).trans r3,r4,q5.mono r3.fW⟩
  rename_i ex _ _ _ _
  cases ex with
  |norm=>exact absurd rfl hx
  |exit i=>cases e<;>simp only [Ex.is] at h0;exact ⟨h0,fin⟩
  |ret=>cases e<;>simp only [Ex.is] at h0;exact ⟨h0,fin⟩
 |again sp h hh Vp k ih=>
  intro hn
  obtain ⟨hl,hhead⟩:=nH hh Vp
  obtain ⟨i1,n,i2⟩:=ih hl.1
  refine ⟨i1,n+1,fun rr K w0 M own w a L le hw hu ht hd=> ?_⟩
  rw [roundsIn_succ]
  refine wpIn_mono (h.run rr (fun e=>by cases e) K w0 M own w a hw hu ht hd) ?_
  rintro e a' w' ⟨h0,M1,own1,q1,q2,q3,q4,q5⟩
  obtain ⟨M2,Uq,r1,r2,r3,r4⟩:=hhead (aaS hn h.len) q1 q2 q4
  cases e<;>simp only [Ex.is] at h0
  refine i2 rr K w0 M2 Uq w' a' L ?_ r1 r2 r4 (q5.mono r3.fW)
  have:=MM.m8 r3 n0
  rw [MM.mh] at this
  exact (le.trans (MM.m8 q3 n0)).trans this
theorem cS.iy {c:Code} {n0:Nat} {t:List D} {s:List Ob} {ex:Ex} {t':List D} {s':List Ob} (hn:n0≤s.length) (h:cX P c n0 t s ex t' s'):cS P n0 (.loop c) t s ex t' s':=by
 obtain ⟨h1,n,h2⟩:=h.depth hn
 exact ⟨fun rr K w0 M own w a hw hu ht hd=>wpIn_loop_rounds n (h2 rr K w0 M own w a (M.cut n0) (.refl _) hw hu ht hd),h1⟩
theorem pH {ρ':Type} {r:ρ'} :∀ {l:List (List D)} {z:Z P} {k:Z P→Option ρ'},Iy l z k=some r→∃z',k z'=some r∧(z'.c→z.c∧∀cs∈l,∀c∈cs,c.clean=true)
 | [],z,k,h=>⟨z,h,fun q=>⟨q,fun _ h=>by simp at h⟩⟩
 |cs::l,z,k,h=>by
  rw [Iy] at h
  split at h
  ·rename_i TT hc o _
   obtain ⟨z',h1,h2⟩:=pH h
   refine ⟨z',h1,fun q=>⟨(h2 q).1.2,fun x hx=> ?_⟩⟩
   rcases aaR.1 hx with rfl|hx
   ·exact (h2 q).1.1▸hc
   ·exact (h2 q).2 x hx
  ·cases h
theorem bJ.EY {rd:Bool} {c:Code} {sp:HS} {t t1:List D} {s s1:List Ob} {ex:Ex} {t2:List D} {s2:List Ob} (h:cS P s.length c t1 s1 ex t2 s2) (hh:pz sp s.length t s=some (t1,s1)) (Vp:sY sp t s):bJ P rd c t s ex t2 s2:=by
 obtain ⟨hl,hhead⟩:=nH hh Vp
 refine ⟨fun rr _ K w0 M own w a hw hu ht hd=> ?_,h.len⟩
 obtain ⟨M2,Uq,r1,r2,r3,r4⟩:=hhead (ZP _) hw hu ht
 refine wpIn_mono (h.run rr K w0 M2 Uq w a r1 r2 r4 (hd.mono r3.fW)) ?_
 rintro e a' w' ⟨h0,M',Tj,q1,q2,q3,q4,q5⟩
 have:=MM.m8 r3 s.length
 rw [MM.mh] at this
 exact ⟨h0,M',Tj,q1,q2,((MM.Pn hu).trans this).trans q3,q4,q5⟩
inductive mr (P:Program) (rd:Bool) (c:Code):List D→List Ob→Ex→List D→List Ob→Prop
  |out {t:List D} {s:List Ob} {ex:Ex} {t1:List D} {s1:List Ob} (h:bJ P rd c t s ex t1 s1) (hx:ex≠ .norm):mr P rd c t s ex t1 s1
  |again {t:List D} {s:List Ob} {t1:List D} {s1:List Ob} {ex:Ex} {t':List D} {s':List Ob} (h:bJ P rd c t s .norm t1 s1) (k:mr P rd c t1 s1 ex t' s'):mr P rd c t s ex t' s'
theorem mr.depth {rd:Bool} {c:Code} {t:List D} {s:List Ob} {ex:Ex} {t':List D} {s':List Ob} (h:mr P rd c t s ex t' s'):s.length≤s'.length∧
  ∃n,∀(rr:Option Nat) (_:rd=false→rr=none) (K:Nat→Prop) (w0:eW) (M:MM) (own:Nat→Option Nat) (w:World) (a:Act) (L:MM),L.Le M→cn w0 M own (bP s) w→M.upto s.length→cA M t a.tmps→iL K M a.defers→
   Code.roundsIn (FW rr) 0 P c (fun e a' w'=>ex.is e∧∃M' Tj,cn w0 M' Tj (bP s') w'∧M'.upto s'.length∧L.Le M'∧cA M' t' a'.tmps∧iL K M' a'.defers) n a w:=by
 induction h with
 |out h hx=>
  refine ⟨h.len,1,fun rr UR K w0 M own w a L le hw hu ht hd=> ?_⟩
  rw [roundsIn_succ]
  refine wpIn_mono (h.run rr UR K w0 M own w a hw hu ht hd) ?_
  rintro e a' w' ⟨h0,M1,own1,q1,q2,q3,q4,q5⟩
  have fin:∃M' Tj,cn w0 M' Tj (bP _) w'∧M'.upto _∧L.Le M'∧cA M' _ a'.tmps∧iL K M' a'.defers:=⟨M1,own1,q1,q2,le.trans q3,q4,q5⟩
  rename_i ex _ _
  cases ex with
  |norm=>exact absurd rfl hx
  |exit i=>cases e<;>simp only [Ex.is] at h0;exact ⟨h0,fin⟩
  |ret=>cases e<;>simp only [Ex.is] at h0;exact ⟨h0,fin⟩
 |again h k ih=>
  obtain ⟨i1,n,i2⟩:=ih
  refine ⟨aaS h.len i1,n+1,fun rr UR K w0 M own w a L le hw hu ht hd=> ?_⟩
  rw [roundsIn_succ]
  refine wpIn_mono (h.run rr UR K w0 M own w a hw hu ht hd) ?_
  rintro e a' w' ⟨h0,M1,own1,q1,q2,q3,q4,q5⟩
  cases e<;>simp only [Ex.is] at h0
  exact i2 rr UR K w0 M1 own1 w' a' L (le.trans q3) q1 q2 q4 q5
theorem bJ.iy {rd:Bool} {c:Code} {t:List D} {s:List Ob} {ex:Ex} {t':List D} {s':List Ob} (h:mr P rd c t s ex t' s'):bJ P rd (.loop c) t s ex t' s':=by
 obtain ⟨h1,n,h2⟩:=h.depth
 exact ⟨fun rr UR K w0 M own w a hw hu ht hd=>wpIn_loop_rounds n (h2 rr UR K w0 M own w a M (.refl _) hw hu ht hd),h1⟩
theorem AH {rd:Bool} {ρ':Type} {r:ρ'} {c:Code} {body:List D→List Ob→Z P→(Ex→List D→List Ob→Z P→Option ρ')→Option ρ'}
  (hb:∀ {t:List D} {s:List Ob} {z:Z P} {K:Ex→List D→List Ob→Z P→Option ρ'},body t s z K=some r→∃ex t' s' z',K ex t' s' z'=some r∧(z'.c→z.c∧bJ P rd c t s ex t' s')):
  ∀ {n:Nat} {t:List D} {s:List Ob} {z:Z P} {K:Ex→List D→List Ob→Z P→Option ρ'},iter body n t s z K=some r→∃ex t' s' z',K ex t' s' z'=some r∧(z'.c→z.c∧mr P rd c t s ex t' s')
 |0,t,s,z,K,h=>by simp [iter] at h
 |n+1,t,s,z,K,h=>by
  rw [iter] at h
  obtain ⟨ex,t1,s1,z1,h1,h2⟩:=hb h
  split at h1
  ·obtain ⟨ex',t2,s2,z2,h3,h4⟩:=AH hb h1
   exact ⟨ex',t2,s2,z2,h3,fun q=>⟨(h2 (h4 q).1).1,.again (h2 (h4 q).1).2 (h4 q).2⟩⟩
  ·rename_i TU
   exact ⟨_,t1,s1,z1,h1,fun q=>⟨(h2 q).1,.out (h2 q).2 TU⟩⟩
end
def FK (K:Nat→Prop) (w0:eW) (M:MM) (ex:Ex) (t':List D) (s':List Ob):Exit→Act→World→Prop:=
  fun e a' w'=>ex.is e∧∃M' Tj,cn w0 M' Tj (bP s') w'∧M'.upto s'.length∧M.Le M'∧cA M' t' a'.tmps∧iL K M' a'.defers
theorem BI {K:Nat→Prop} {w0:eW} {M M1:MM} (le:M.Le M1) {ex:Ex} {t':List D} {s':List Ob} {e:Exit} {a:Act} {w:World} (h:FK K w0 M1 ex t' s' e a w):FK K w0 M ex t' s' e a w:=by
 obtain ⟨h0,M',Tj,h1,h2,h3,h4,h5⟩:=h
 exact ⟨h0,M',Tj,h1,h2,le.trans h3,h4,h5⟩
theorem jb {P:Program} {b:Frame} {a:Act} {k:List Item} {cs:List Frame} {w:World} {c:Code} :step P (lone (b.atR a (.code (.scope c)::k)) cs w)= .next (lone (b.atR a (.code c:: .inScope c::k)) cs w):=
 step_lone_go (by simp [stepG,stepG.exec,Frame.atR])
theorem uc {P:Program} {b:Frame} {a:Act} {k:List Item} {cs:List Frame} {w:World} {c:Code} :step P (lone (b.atR a (.inScope c::k)) cs w)= .next (lone (b.atR a k) cs w):=
 step_lone_go (by simp [stepG,stepG.exec,Frame.atR])
theorem nL {P:Program} {F:Fence} {n:Nat} {Q:Exit→Act→World→Prop} {a:Act} {w:World} {c:Code} (h:c.wpIn F n P (Exit.noGoto Q) a w):(Code.scope c).wpIn F n P Q a w:=by
 intro b k cs hro hb hr
 have h0:(lone (b.atR a (.code (.scope c)::k)) cs w).fenced P F:=fenced_calm hb hr rfl
 obtain ⟨e,a₁,w₁,hq,Ug⟩:=h b (.inScope c::k) cs hro hb hr
 cases e with
 |normal=>exact ⟨.normal,a₁,w₁,hq,.head h0 jb (StepsIn.trans Ug (.one (fenced_calm hb hr rfl) uc))⟩
 |exit id=>
  have hx:exitTo id (.inScope c::k)=exitTo id k:=by simp [exitTo]
  exact ⟨.exit id,a₁,w₁,hq,fun k' hk=> .head h0 jb (Ug.1 k' (by rw [hx];exact hk)),
   fun V2 hk=>let ⟨k₁,h1,h2⟩:=Ug.2 V2 (by rw [hx];exact hk);⟨k₁,h1,.head h0 jb h2⟩⟩
 |goto l=>exact hq.elim
 |ret=>exact ⟨_,a₁,w₁,hq,.of_steps (.one h0 jb) Ug⟩
 |panic ch=>exact ⟨_,a₁,w₁,hq,.of_steps (.one h0 jb) Ug⟩
 |outgrown=>exact ⟨_,a₁,w₁,hq,.of_steps (.one h0 jb) Ug⟩
section
variable {P:Program} {rd:Bool}
theorem bJ.skip (t:List D) (s:List Ob):bJ P rd .skip t s .norm t s:=
 ⟨fun _ _ _ _ M own _ _ hw hu ht hd=>wpIn_skip ⟨trivial,M,own,hw,hu,.refl M,ht,hd⟩,ZP _⟩
theorem bJ.label (l:Nat) (t:List D) (s:List Ob):bJ P rd (.label l) t s .norm t s:=
 ⟨fun _ _ _ _ M own _ _ hw hu ht hd=>wpIn_label ⟨trivial,M,own,hw,hu,.refl M,ht,hd⟩,ZP _⟩
theorem bJ.exit (i:Nat) (t:List D) (s:List Ob):bJ P rd (.exit i) t s (.exit i) t s:=
 ⟨fun _ _ _ _ M own _ _ hw hu ht hd=>wpIn_exit ⟨rfl,M,own,hw,hu,.refl M,ht,hd⟩,ZP _⟩
theorem bJ.Rn (t:List D) (s:List Ob):bJ P rd .ret t s .ret t s:=
 ⟨fun _ _ _ _ M own _ _ hw hu ht hd=>wpIn_ret ⟨trivial,M,own,hw,hu,.refl M,ht,hd⟩,ZP _⟩
theorem bJ.Rk {x y:Code} {t t1 t2:List D} {s s1 s2:List Ob} {ex:Ex} (h:bJ P rd x t s .norm t1 s1) (k:bJ P rd y t1 s1 ex t2 s2):bJ P rd (.seq x y) t s ex t2 s2:=by
 refine ⟨fun rr UR K w0 M own w a hw hu ht hd=>wpIn_seq (wpIn_mono (h.run rr UR K w0 M own w a hw hu ht hd) ?_),aaS h.len k.len⟩
 rintro e a' w' ⟨h0,M',Tj,h1,h2,h3,h4,h5⟩
 cases e<;>simp only [Ex.is] at h0
 exact wpIn_mono (k.run rr UR K w0 M' Tj w' a' h1 h2 h4 h5) fun e a w hh=>BI h3 hh
theorem bJ.Rj {x y:Code} {t t1:List D} {s s1:List Ob} {ex:Ex} (h:bJ P rd x t s ex t1 s1) (hx:ex≠ .norm):bJ P rd (.seq x y) t s ex t1 s1:=by
 refine ⟨fun rr UR K w0 M own w a hw hu ht hd=>wpIn_seq (wpIn_mono (h.run rr UR K w0 M own w a hw hu ht hd) ?_),h.len⟩
 rintro e a' w' ⟨h0,h1⟩
 cases ex with
 |norm=>exact absurd rfl hx
 |exit i=>cases e<;>simp only [Ex.is] at h0;exact ⟨h0,h1⟩
 |ret=>cases e<;>simp only [Ex.is] at h0;exact ⟨h0,h1⟩
theorem bJ.cond {c:Operand} {x y:Code} {t t1:List D} {s s1:List Ob} {ex:Ex} {b:Bool} (hb:cP t c= .bool b) (h:bJ P rd (if b then x else y) t s ex t1 s1):bJ P rd (.cond c x y) t s ex t1 s1:=by
 refine ⟨fun rr UR K w0 M own w a hw hu ht hd=>wpIn_cond (t:=b) ?_ (h.run rr UR K w0 M own w a hw hu ht hd),h.len⟩
 have hr:=oY ht c
 rw [hb] at hr
 generalize hv:a.eval c=v at hr
 cases hr
 rfl
theorem bJ.PD {id:Nat} {x:Code} {t t1:List D} {s s1:List Ob} (h:bJ P rd x t s (.exit id) t1 s1):bJ P rd (.block id x) t s .norm t1 s1:=by
 refine ⟨fun rr UR K w0 M own w a hw hu ht hd=>wpIn_block (wpIn_mono (h.run rr UR K w0 M own w a hw hu ht hd) ?_),h.len⟩
 rintro e a' w' ⟨h0,h1⟩
 cases e<;>simp only [Ex.is] at h0
 subst h0
 simp only [Exit.inBlock,if_true]
 exact ⟨trivial,h1⟩
theorem bJ.LH {id:Nat} {x:Code} {t t1:List D} {s s1:List Ob} {ex:Ex} (h:bJ P rd x t s ex t1 s1) (hx:∀i,ex= .exit i→i≠id):bJ P rd (.block id x) t s ex t1 s1:=by
 refine ⟨fun rr UR K w0 M own w a hw hu ht hd=>wpIn_block (wpIn_mono (h.run rr UR K w0 M own w a hw hu ht hd) ?_),h.len⟩
 rintro e a' w' ⟨h0,h1⟩
 cases ex with
 |norm=>cases e<;>simp only [Ex.is] at h0;exact ⟨h0,h1⟩
 |exit i=>
  cases e<;>simp only [Ex.is] at h0
  subst h0
  simp only [Exit.inBlock,if_neg (hx _ rfl)]
  exact ⟨rfl,h1⟩
 |ret=>cases e<;>simp only [Ex.is] at h0;exact ⟨h0,h1⟩
theorem bJ.scope {x:Code} {t t1:List D} {s s1:List Ob} {ex:Ex} (h:bJ P rd x t s ex t1 s1):bJ P rd (.scope x) t s ex t1 s1:=by
 refine ⟨fun rr UR K w0 M own w a hw hu ht hd=>nL (wpIn_mono (h.run rr UR K w0 M own w a hw hu ht hd) ?_),h.len⟩
 rintro e a' w' ⟨h0,h1⟩
 cases ex<;>cases e<;>simp only [Ex.is] at h0<;>exact ⟨h0,h1⟩
theorem bJ.text {id:Nat} {ops:Array Oper} {t t1:List D} {s s1:List Ob} {tr:List Tr} (h:Trace P ops ops.toList t s tr t1 s1):bJ P rd (.region id ops false) t s .norm t1 s1:=by
 refine ⟨fun rr UR K w0 M own w a hw hu ht hd=>wpIn_region ?_,kj h⟩
 rw [List.range_eq_range',show ops.size=ops.toList.length by simp]
 exact qv rr h 0 rfl hw hu ht rfl fun M' Tj w' a' le up Uo Xq XE=>⟨trivial,M',Tj,Uo,up,le,Xq,XE▸hd.mono le.fW⟩
theorem bJ.draw {id:Nat} {ops:Array Oper} {t t1:List D} {s s1:List Ob} {tr:List Tr} (hm:P.follows .mixedOrders=true) (h:Trace P ops ops.toList t s tr t1 s1) (hd:oj ops ((tr.map Tr.fp).reverse++ [])=true):bJ P rd (.region id ops true) t s .norm t1 s1:=
 ⟨fun rr _ K _ _ _ _ _ hw hu ht YV=>zY h hd hm id hw hu ht rfl rr fun M' Tj _ _ le up Uo Xq XE=>⟨trivial,M',Tj,Uo,up,le,Xq,XE▸YV.mono le.fW⟩,kj h⟩
theorem uk {P:Program} {a:Act} {g:Operand} {gf:FuncId} {fv cv:Array Value} {l:Nat} (hf:a.eval g= .func (.func gf) fv cv) (w:World):
  (resolve a.eval (rangeCall g l) 0).run P w= .ok { target:= .fn (.func gf) cv,args:=fv++ #[.func (.yield l) #[] #[]] } w:=by
 have e:a.eval (.const (.func (.yield l) #[] #[]))= .func (.yield l) #[] #[]:=rfl
 simp [rangeCall,resolve,hf,Deferred.ofValue,e]
theorem cA.kY {M:MM} {aV:List Nat} :∀ {t:List D} {vs:Array Value} (i:Nat),cA M t vs→cA M (kY aV i t) vs:=by
 intro t vs i h
 have len:∀(t:List D) (i:Nat),(Go.Ev.kY aV i t).length=t.length:=by
  intro t
  induction t with
  |nil=>intro i;rfl
  |cons d r ih=>intro i;simp [Go.Ev.kY,ih]
 have TE:∀(t:List D) (i k:Nat) (d:D),(Go.Ev.kY aV i t)[k]? =some d→d= .undef∨t[k]? =some d:=by
  intro t
  induction t with
  |nil=>intro i k d h;simp [Go.Ev.kY] at h
  |cons a r ih=>
   intro i k d h
   cases k with
   |zero=>
    simp only [Go.Ev.kY,aat,ZK] at h
    split at h
    ·exact .inr (by simp [h])
    ·exact .inl h.symm
   |succ k=>simp only [Go.Ev.kY,aaC] at h;simpa using ih _ _ _ h
 refine ⟨by rw [len];exact h.1,fun k d v p q=> ?_⟩
 rcases TE t i k d p with rfl|e
 ·exact .undef v
 ·exact h.2 k d v e q
theorem cA.set {M:MM} {t:List D} {vs:Array Value} (h:cA M t vs) {i:Nat} {d:D} {v:Value} (hr:cj M d v):cA M (t.set i d) (vs.setIfInBounds i v):=by
 refine ⟨by simp [h.1],fun k d' v' p q=> ?_⟩
 by_cases e:k=i
 ·subst e
  have Tq:k<t.length:=by
   rcases ZY k t.length with x|x
   ·exact x
   ·rw [ZN (by simpa using x)] at p;cases p
  have Wh:k<vs.size:=by rw [← h.1];exact Tq
  simp [Tq] at p
  simp [Wh] at q
  subst p q
  exact hr
 ·rw [List.getElem?_set_ne (Ne.symm e)] at p
  rw [Array.getElem?_setIfInBounds_ne (Ne.symm e)] at q
  exact h.2 k d' v' p q
theorem cA.mN {M:MM} :∀ {ps:List Nat} {args:List D} {vs:List Value} {t:List D} {tv:Array Value},cA M t tv→args.length=vs.length→(∀(i:Nat) (d:D) (v:Value),args[i]? =some d→vs[i]? =some v→cj M d v)→
  cA M (mN t (ps.zip args)) ((ps.zip vs).foldl (fun tmps (x:Nat×Value)=>tmps.setIfInBounds x.1 x.2) tv)
 | [],args,vs,t,tv,h,hl,hr=>by simpa [Go.Ev.mN] using h
 |p::ps,[],[],t,tv,h,hl,hr=>by simpa [Go.Ev.mN] using h
 |p::ps,[],v::vs,t,tv,h,hl,hr=>by simp at hl
 |p::ps,d::args,[],t,tv,h,hl,hr=>by simp at hl
 |p::ps,d::args,v::vs,t,tv,h,hl,hr=>by
  simp only [List.zip_cons_cons,Go.Ev.mN,List.foldl_cons]
  exact cA.mN (h.set (hr 0 d v rfl rfl)) (by simpa using hl) (fun i d' v' a b=>hr (i+1) d' v' (by simpa using a) (by simpa using b))
theorem bJ.range {g:Operand} {ps:Array Tmp} {ag bd:Code} {t:List D} {s:List Ob} {gf:FuncId} {first cap:List D} {aV:List Nat} {d:D} {s2:List Ob} {k:Lk} {t5:List D} {V6:Array Nat} {Wc V0:Code} {ex:Ex}
  (hg:cP t g= .fn (.func gf) first cap) (TC:ao P gf (first++(.jM s.length::cap)) (s++ [.lp .ready (kY aV 0 t) ps ag bd]) d s2) (hk:s2.getD s.length .dead= .lp k t5 V6 Wc V0)
  (hex:(k= .ready∧ex= .norm)∨(k= .ret∧ex= .ret)∨∃i,k= .exit i∧ex= .exit i):bJ P false (.rangeFunc g ps ag bd) t s ex t (s2.set s.length .dead):=by
 have hlen:=TC.len
 rw [ZR,aaJ] at hlen
 refine ⟨fun rr UR K w0 M own w a hw hu ht hd=> ?_,by rw [aaz];omega⟩
 obtain rfl:=UR rfl
 have UA:=oY ht g
 rw [hg] at UA
 generalize hfv:a.eval g=fval at UA
 cases UA with
 |fn h1 h2 r1 r2=>
  rename_i fv cv
  refine wpIn_rangeFunc ?_
  intro fn _
  have Wo:=hw.Qv
  obtain ⟨rec,hrec⟩:∃rec:Loop,rec= { state:= .ready,pending:=none,fn,tmps:=a.tmps,params:=ps,assign:=ag,body:=bd,defers:=w.heap.size } :=⟨_,rfl⟩
  have Xo:=M.u7 w.heap.size
  have U7:(M.pO w.heap.size).box s.length=none:=hu.1 _ (ZP _)
  have hhs:∀v,(M.pO w.heap.size).b9 s.length v=none:=fun v=>hu.2 _ v (ZP _)
  have UF:=Wo.Qw (k:= .ready) (t:=kY aV 0 t) (r:=rec) U7 hhs (by rw [hrec];rfl) (fun _=>by rw [hrec];rfl) (by rw [hrec];exact (ht.mono Xo).kY 0)
  have U1:=MM.gh (b:=(w.alloc (.deferred (some []))).heap.size) U7
  have Tw:(w.alloc (.deferred (some []))).heap.size=w.heap.size+1:=World.size_alloc _ _
  rw [show rec.params=ps by rw [hrec],show rec.assign=ag by rw [hrec],show rec.body=bd by rw [hrec],← pR] at UF
  have Vg:((M.pO w.heap.size).cQ s.length (w.alloc (.deferred (some []))).heap.size).upto (s++ [Ob.lp .ready (kY aV 0 t) ps ag bd]).length:=by
   rw [ZR,aaJ]
   refine ⟨fun i hi=> ?_,fun i v hi=>hu.2 i v (by omega)⟩
   simp only [MM.cQ,if_neg (show ¬i=s.length by omega)]
   exact hu.1 i (by omega)
  have Tu:cA ((M.pO w.heap.size).cQ s.length (w.alloc (.deferred (some []))).heap.size) (first++(.jM s.length::cap)) ((fv++ #[.func (.yield (w.heap.size+1)) #[] #[]])++cv):=by
   rw [Array.append_assoc]
   refine cA.append (cA.mono ⟨h1,r1⟩ (Xo.trans U1)) ?_
   rw [show (D.jM s.length::cap)= [D.jM s.length]++cap from rfl]
   refine cA.append ⟨rfl,fun i d v p q=> ?_⟩ (cA.mono ⟨h2,r2⟩ (Xo.trans U1))
   cases i with
   |zero=>
    simp at p q
    subst p q
    exact .jM (by simp [MM.cQ,Tw])
   |succ i=>simp at p
  obtain ⟨fnc,code,e1,e2,e3⟩:=TC.Ij
  refine ⟨w.heap.size+1,[{ target:= .collected w.heap.size,args:= #[] }],(w.alloc (.deferred (some []))).alloc (.loop rec),_,_,gf,(fv++ #[.func (.yield (w.heap.size+1)) #[] #[]])++cv,(w.alloc (.deferred (some []))).alloc (.loop rec),?_,uk hfv _,fun _ _=>trivial,?_,fun e=>(by cases e),?_⟩
  ·rw [hrec];exact run_enterLoop_outer _ _ _ _ _
  ·simp only [invoke,callFunc,ZW,run_program,Result.andThen_ok,e1,e3,Bool.false_eq_true,if_false,e2,Option.isNone_some,Z4]
  have Wg:CallsIn (FW none) (0 - 1) P gf ((fv++ #[.func (.yield (w.heap.size+1)) #[] #[]])++cv) ((w.alloc (.deferred (some []))).alloc (.loop rec)) _:=(callsIn_wide (n:=0)).2 (TC.run w0 _ _ _ _ UF Vg Tu)
  refine Wg.mono ?_
  rintro e w3 ⟨v,M',Tj,rfl,q1,q2,q3,q4⟩
  have Vk:M.Le M':=(Xo.trans U1).trans q3
  obtain ⟨l,r,q⟩:=q1.lp s.length k t5 V6 Wc V0 hk
  have Yf:M'.box s.length=some (w.heap.size+1):=q3.box _ _ (by simp [MM.cQ,Tw])
  have el:l=w.heap.size+1:=by have:=q.box;rw [Yf] at this;exact (ZE this).symm
  subst el
  have YR:k≠ .busy:=by rcases hex with ⟨rfl,_⟩|⟨rfl,_⟩|⟨i,rfl,_⟩<;>(intro e;cases e)
  have Ty:r.state≠ .busy:=by
   rw [q.st]
   rcases hex with ⟨rfl,_⟩|⟨rfl,_⟩|⟨i,rfl,_⟩<;>(intro e;cases e)
  have XQ:=q1.Jt (k':= .ready) (r':= { r with state:= .exhausted }) q .dead (.inl rfl)
  have Tq:s.length<s2.length:=by omega
  rw [← mL Tq] at XQ
  have hd4:iL K M' ({ target:= .collected w.heap.size,args:= #[] } ::a.defers):=by
   obtain ⟨k0,bs,b1,b2,b3⟩:=hd
   have TP:∀b,M.fW b→b≠w.heap.size:=fun b hb e=>by
    have:=(hw.fW b hb).2
    rw [e] at this
    simp at this
   refine ⟨fun b hb=>Vk.fW b (k0 b hb),w.heap.size::bs,by rw [b1];rfl,List.nodup_cons.2 ⟨fun hm=>TP _ (b3 _ hm).1 rfl,b2⟩,?_⟩
   intro b hb
   rcases aaR.1 hb with rfl|hb
   ·exact ⟨q3.fW _ (U1.fW _ (.inr rfl)),fun hK=>TP _ (k0 _ hK) rfl⟩
   ·exact ⟨Vk.fW b (b3 b hb).1,(b3 b hb).2⟩
  have fin:∃M' Tj,cn w0 M' Tj (bP (s2.set s.length .dead)) (cR w3 (w.heap.size+1) (.loop { r with state:= .exhausted }))∧M'.upto (s2.set s.length .dead).length∧M.Le M'∧cA M' t a.tmps∧iL K M' ({ target:= .collected w.heap.size,args:= #[] } ::a.defers):=
   ⟨M',Tj,XQ,by rw [aaz];exact q2,Vk,ht.mono Vk,hd4⟩
  refine ⟨k.MH,cR w3 (w.heap.size+1) (.loop { r with state:= .exhausted }),?_,?_⟩
  ·rw [← q.pd YR]
   exact run_endLoop (P:=P) q.dQ Ty
  ·rcases hex with ⟨rfl,rfl⟩|⟨rfl,rfl⟩|⟨i,rfl,rfl⟩
   ·exact ⟨trivial,fin⟩
   ·exact wpIn_ret ⟨trivial,fin⟩
   ·exact wpIn_exit ⟨rfl,fin⟩
variable {ρ':Type} {r:ρ'}
theorem fX {inl:FL P ρ'} (TM:lQ P inl) (hm:P.follows .mixedOrders=true):∀ {rd:Bool} (c:Code) {t:List D} {s:List Ob} {z:Z P} {K:Ex→List D→List Ob→Z P→Option ρ'},gK P inl rd c t s z K=some r→
  ∃ex t' s' z',K ex t' s' z'=some r∧(z'.c→z.c∧bJ P rd c t s ex t' s')
 |rd,.skip,t,s,z,K,h=>⟨_,_,_,z,by simpa only [gK] using h,fun c=>⟨c,.skip t s⟩⟩
 |rd,.label l,t,s,z,K,h=>⟨_,_,_,z,by simpa only [gK] using h,fun c=>⟨c,.label l t s⟩⟩
 |rd,.exit i,t,s,z,K,h=>⟨_,_,_,z,by simpa only [gK] using h,fun c=>⟨c,.exit i t s⟩⟩
 |rd,.ret,t,s,z,K,h=>⟨_,_,_,z,by simpa only [gK] using h,fun c=>⟨c,.Rn t s⟩⟩
 |rd,.scope x,t,s,z,K,h=>by
  rw [gK] at h
  obtain ⟨ex,t',s',z',h1,h2⟩:=fX TM hm x h
  exact ⟨ex,t',s',z',h1,fun c=>⟨(h2 c).1,(h2 c).2.scope⟩⟩
 |rd,.region id ops draw,t,s,z,K,h=>by
  rw [gK] at h
  obtain ⟨tr,t',s',z',h1,h2⟩:=gM TM h
  split at h1
  ·exact ⟨_,_,_,z',h1,fun c=>⟨(h2 c).1,.text (h2 c).2⟩⟩
  ·obtain ⟨hd,h1⟩:=b8 h1
   exact ⟨_,_,_,z',h1,fun c=>⟨(h2 c).1,.draw hm (h2 c).2 hd⟩⟩
 |rd,.seq x y,t,s,z,K,h=>by
  rw [gK] at h
  obtain ⟨ex,t1,s1,z1,h1,h2⟩:=fX TM hm x h
  split at h1
  ·obtain ⟨ex',t2,s2,z2,h3,h4⟩:=fX TM hm y h1
   exact ⟨ex',t2,s2,z2,h3,fun c=>⟨(h2 (h4 c).1).1,(h2 (h4 c).1).2.Rk (h4 c).2⟩⟩
  ·rename_i TU
   exact ⟨_,_,_,z1,h1,fun c=>⟨(h2 c).1,(h2 c).2.Rj TU⟩⟩
 |rd,.cond q x y,t,s,z,K,h=>by
  rw [gK] at h
  split at h
  ·rename_i b hb
   obtain ⟨z1,⟨h1,h2⟩|⟨h1,h2⟩⟩:=oq h
   ·obtain ⟨ex,t',s',z',h3,h4⟩:=fX TM hm x h1
    exact ⟨ex,t',s',z',h3,fun c=>⟨(h2 (h4 c).1).1,.cond (b:=true) (by rw [hb,(h2 (h4 c).1).2]) (h4 c).2⟩⟩
   ·obtain ⟨ex,t',s',z',h3,h4⟩:=fX TM hm y h1
    exact ⟨ex,t',s',z',h3,fun c=>⟨(h2 (h4 c).1).1,.cond (b:=false) (by rw [hb,(h2 (h4 c).1).2]) (h4 c).2⟩⟩
  ·cases h
 |rd,.block id x,t,s,z,K,h=>by
  rw [gK] at h
  split at h
  ·rename_i sp n0 c' t1 s1 ex t2 s2 hg rest _
   split at h
   ·rename_i t' s' hh
    obtain ⟨hn,h'⟩:=b8 h
    rw [Z3] at hn
    subst hn
    obtain ⟨z',h1,h2⟩:=pH h'
    exact ⟨ex,t2,s2,_,h1,fun q=>have k:=(h2 q).1;⟨k.2,.EY (k.1.1▸k.1.2.1▸k.1.2.2▸hg) hh (h2 q).2⟩⟩
   ·cases h
  ·obtain ⟨ex,t1,s1,z1,h1,h2⟩:=fX TM hm x h
   split at h1
   ·rename_i i
    split at h1
    ·rename_i hi
     have hi:i=id:=by simpa using hi
     subst hi
     exact ⟨_,_,_,z1,h1,fun c=>⟨(h2 c).1,(h2 c).2.PD⟩⟩
    ·rename_i hi
     have hi:i≠id:=fun e=>by subst e;simp at hi
     exact ⟨_,_,_,z1,h1,fun c=>⟨(h2 c).1,(h2 c).2.LH fun j hj=>by cases hj;exact hi⟩⟩
   ·rename_i TU
    exact ⟨_,_,_,z1,h1,fun c=>⟨(h2 c).1,(h2 c).2.LH fun j hj=>absurd hj (TU j)⟩⟩
 |rd,.loop x,t,s,z,K,h=>by
  rw [gK] at h
  split at h
  ·obtain ⟨ex,t',s',z',h1,h2⟩:=AH (c:=x) (fun h=>fX TM hm x h) h
   exact ⟨ex,t',s',z',h1,fun k=>⟨(h2 k).1,.iy (h2 k).2⟩⟩
  ·rename_i sp n0 c' t1 s1 ex t2 s2 hg rest _
   split at h
   ·rename_i t' s' hh
    obtain ⟨hn,h'⟩:=b8 h
    rw [Z3] at hn
    subst hn
    obtain ⟨z',h1,h2⟩:=pH h'
    exact ⟨ex,t2,s2,_,h1,fun q=>have k:=(h2 q).1;⟨k.2,.EY (k.1.1▸k.1.2.1▸k.1.2.2▸hg) hh (h2 q).2⟩⟩
   ·cases h
  ·rename_i c' t1 s1 ex t2 s2 hg rest _
   exact ⟨ex,t2,s2,_,h,fun k=>⟨k.2,.any (k.1.1▸k.1.2.1▸k.1.2.2▸hg) _⟩⟩
  ·cases h
 |rd,.rangeFunc g ps ag bd,t,s,z,K,h=>by
  rw [gK] at h
  split at h
  ·split at h
   ·rename_i gf first cap hg
    rw [hJ,pW] at h
    obtain ⟨d,s2,z1,h1,h2⟩:=TM (.fn gf) _ _ _ _ r h
    split at h1
    ·rename_i hk
     rw [jh] at h1
     exact ⟨_,_,_,z1,h1,fun c=>⟨(h2 c).1,bJ.range hg (h2 c).2 hk (.inl ⟨rfl,rfl⟩)⟩⟩
    ·rename_i hk
     rw [jh] at h1
     exact ⟨_,_,_,z1,h1,fun c=>⟨(h2 c).1,bJ.range hg (h2 c).2 hk (.inr (.inl ⟨rfl,rfl⟩))⟩⟩
    ·rename_i hk
     rw [jh] at h1
     exact ⟨_,_,_,z1,h1,fun c=>⟨(h2 c).1,bJ.range hg (h2 c).2 hk (.inr (.inr ⟨_,rfl,rfl⟩))⟩⟩
    ·cases h1
   ·cases h
  ·rename_i c' t1 s1 ex t2 s2 hg rest _
   exact ⟨ex,t2,s2,_,h,fun k=>⟨k.2,.any (k.1.1▸k.1.2.1▸k.1.2.2▸hg) _⟩⟩
  ·cases h
 |rd,.goto l,t,s,z,K,h=>by
  rw [gK] at h
  split at h
  ·rename_i c' t1 s1 ex t2 s2 hg rest _
   exact ⟨ex,t2,s2,_,h,fun k=>⟨k.2,.any (k.1.1▸k.1.2.1▸k.1.2.2▸hg) _⟩⟩
  ·cases h
  all_goals (intros;rename_i q;cases q)
 |rd,.refuse y,t,s,z,K,h=>by
  rw [gK] at h
  split at h
  ·rename_i c' t1 s1 ex t2 s2 hg rest _
   exact ⟨ex,t2,s2,_,h,fun k=>⟨k.2,.any (k.1.1▸k.1.2.1▸k.1.2.2▸hg) _⟩⟩
  ·cases h
  all_goals (intros;rename_i q;cases q)
def Gm (tmps:Array Value):ResultVar→Sem Value
  | .tmp t=>pure (tmps.getD t undef)
  | .cell a t=>do loadVar t (← asAddr (tmps.getD a undef))
theorem Ca (fn:Func) (tmps:Array Value):results fn tmps=(do
  let vs ← fn.results.mapM (Gm tmps)
  pure (if h:vs.size=1 then vs[0] else .tuple vs)):=by
 unfold results
 rfl
theorem Cb {w0:eW} {M:MM} {own:Nat→Option Nat} {w:World} {t:List D} {s:List Ob} {tmps:Array Value} (hw:cn w0 M own (bP s) w) (ht:cA M t tmps) {x:ResultVar} {d:D} (h:wV P t s x=some d):
  ∃v,cj M d v∧(Gm tmps x).run P w= .ok v w:=by
 cases x with
 |tmp i=>
  simp only [wV,ZK] at h
  subst h
  exact ⟨_,ka ht i,by simp [Gm]⟩
 |cell a ty=>
  simp only [wV] at h
  split at h
  ·rename_i dyn id off hp
   split at h
   ·rename_i cs hb
    have hx:=ka ht a
    rw [hp] at hx
    generalize hv:tmps.getD a undef=v at hx
    cases hx with
    |ptr _ U7=>
     rename_i b'
     obtain ⟨b,vs,tt,k⟩:=hw.box id cs hb
     rw [k.box] at U7
     obtain rfl:=ZE U7
     have UO:∀j c,cs[j]? =some c→w.cell? ⟨b,0+j,none⟩=some (vs.getD j .nilFunc)∧cj M c (vs.getD j .nilFunc):=by
      intro j c hj
      obtain ⟨u,hu,hru⟩:=nz k.len k.rep hj
      rw [Array.getD_eq_getD_getElem?,hu]
      refine ⟨?_,hru⟩
      simp [World.cell?,k.dQ,hu]
     have hp':nj P ty cs off d:=by
      split at h
      ·rename_i e he
       split at h
       ·rename_i ha
        split at h
        ·rename_i hk
         simp only [ZD,aaF] at hk
         exact ⟨e,he,.inl ⟨ha,hk.2,(ZE h).symm⟩⟩
        ·cases h
       ·rename_i ha
        exact ⟨e,he,.inr ⟨ha,h⟩⟩
      ·cases h
     obtain ⟨u,h1,h2⟩:=km hp' (fun j=>vs.getD j .nilFunc) UO
     rw [aan] at h1
     refine ⟨u,h2,?_⟩
     simp only [Gm,hv,asAddr,ZW,Z4,Result.andThen_ok,h1]
   ·cases h
  ·cases h
theorem zS {w0:eW} {M:MM} {own:Nat→Option Nat} {w:World} {t:List D} {s:List Ob} {tmps:Array Value} (hw:cn w0 M own (bP s) w) (ht:cA M t tmps):∀ {l:List ResultVar} {ds:List D},Cc P t s l=some ds→
  ∃vs:List Value,ds.length=vs.length∧(∀(i:Nat) (d:D) (v:Value),ds[i]? =some d→vs[i]? =some v→cj M d v)∧Sem.run P (List.mapM (Gm tmps) l) w= .ok vs w
 | [],ds,h=>by
  simp only [Cc,ZK] at h
  subst h
  exact ⟨[],rfl,fun i d v h=>by simp at h,by simp⟩
 |x::l,ds,h=>by
  simp only [Cc] at h
  split at h
  ·rename_i d Ye hd hl
   obtain rfl:=ZE h
   obtain ⟨v,h1,h2⟩:=Cb hw ht hd
   obtain ⟨vs,k1,k2,k3⟩:=zS hw ht hl
   refine ⟨v::vs,by simp [k1],?_,?_⟩
   ·intro i d' v' a b
    cases i with
    |zero=>simp at a b;subst a b;exact h1
    |succ i=>simp at a b;exact k2 i d' v' a b
   ·rw [List.mapM_cons,ZW,h2,Result.andThen_ok,ZW,k3,Result.andThen_ok,Z4]
  ·cases h
theorem zR {w0:eW} {M:MM} {own:Nat→Option Nat} {w:World} {t:List D} {s:List Ob} {tmps:Array Value} {fn:Func} (hw:cn w0 M own (bP s) w) (ht:cA M t tmps) {ds:List D} (h:Cc P t s fn.results.toList=some ds):
  ∃v,cj M (Cd ds) v∧(results fn tmps).run P w= .ok v w:=by
 obtain ⟨vs,k1,k2,k3⟩:=zS hw ht h
 have e:(results fn tmps).run P w= .ok (if h:vs.length=1 then vs[0] else .tuple vs.toArray) w:=by
  have hr:fn.results=fn.results.toList.toArray:=by simp
  rw [Ca,hr,List.mapM_toArray,ZW]
  rw [show (List.toArray<$>List.mapM (Gm tmps) fn.results.toList:Sem (Array Value)).run P w= .ok vs.toArray w by
   rw [map_eq_pure_bind,ZW,k3];simp]
  simp
 refine ⟨_,?_,e⟩
 cases ds with
 |nil=>
  cases vs with
  |nil=>simp only [Cd];exact .aL rfl (fun i d v a=>by simp at a)
  |cons a b=>simp at k1
 |cons d ds=>
  cases ds with
  |nil=>
   cases vs with
   |nil=>simp at k1
   |cons a b=>
    cases b with
    |nil=>simp only [Cd];exact k2 0 d a rfl rfl
    |cons b c=>simp at k1
  |cons d2 ds=>
   cases vs with
   |nil=>simp at k1
   |cons a b=>
    cases b with
    |nil=>simp at k1
    |cons b c=>simp only [Cd];exact .aL (by simpa using k1) (fun i d v p q=>k2 i d v p (by simpa using q))
theorem pw {fn:Func} {tmps:Array Value} {R:Ending→World→Prop} {w0:eW} {own:Nat→Option Nat} {σ:Nat→Ob} :∀(bs:List Nat) {M:MM} {w:World},cn w0 M own σ w→bs.Nodup→(∀b∈bs,M.fW b)→
  (∀(f:Nat→Prop) (w2:World),(∀b,M.fW b→b∉bs→f b)→cn w0 { M with fW:=f } own σ w2→∃v,(results fn tmps).run P w2= .ok v w2∧R (.returned v) w2)→
  LeavesInM Fence.wide 0 P fn tmps R (bs.map fun b=> { target:= .collected b,args:= #[] }) .returning w
 | [],M,w,hw,_,_,h=>h M.fW w (fun _ hb _=>hb) hw
 |b::bs,M,w,hw,hn,hb,h=>by
  obtain ⟨VN,Xl⟩:=List.nodup_cons.1 hn
  refine ⟨fun e=>(by cases e),.inl ⟨b,_,rfl,run_takeDeferred (hw.fW b (hb b (by simp))).2,?_⟩⟩
  refine pw bs (hw.wa (hb b (by simp))) Xl (fun c hc=>⟨hb c (by simp [hc]),fun e=>VN (e▸hc)⟩) fun f w2 hf UF=> ?_
  exact h f w2 (fun c hc hm=>hf c ⟨hc,fun e=>hm (by simp [e])⟩ (fun X7=>hm (by simp [X7]))) UF
theorem vw {inl:FL P ρ'} (TM:lQ P inl) (hm:P.follows .mixedOrders=true) {f:FuncId} {fn:Func} (hf:P.funcs[f]? =some fn) (hn:(fn.name== "runtime.NumGoroutine")=false)
  {args:List D} {s:List Ob} {z:Z P} {K:D→List Ob→Z P→Option ρ'} (h:vx P inl fn args s z K=some r):∃d s' z',K d s' z'=some r∧(z'.c→z.c∧ao P f args s d s'):=by
 unfold vx at h
 split at h
 ·rename_i c hc
  obtain ⟨hle,h⟩:=b8 h
  rw [hJ] at h
  obtain ⟨ex,t',s',z',h1,h2⟩:=fX (rd:=false) TM hm c h
  have main:∀ {l},Cc P t' s' fn.results.toList=some l→(∀i,ex≠ .exit i)→bJ P false c (args++List.replicate (fn.ntmps - args.length) .undef) s ex t' s'→ao P f args s (Cd l) s':=by
   intro l hl hex TC
   refine ⟨⟨fn,c,hf,hc,hn⟩,TC.len,?_⟩
   intro w0 M own w vs hw hu ha
   refine (callsIn_wide (n:=0)).1 (callsIn_of_wp_marks hf hc trivial (wpIn_mono (TC.run none (fun _=>rfl) M.fW w0 M own w _ hw hu ?_ ⟨fun _ h=>h,[],rfl,List.nodup_nil,fun b hb=>by cases hb⟩) ?_))
   ·refine ha.append ⟨by simp [ha.1],fun i d v p q=> ?_⟩
    rw [List.getElem?_replicate] at p
    split at p
    ·obtain rfl:=ZE p;exact .undef v
    ·cases p
   ·rintro e a' w' ⟨h0,M',Tj,q1,q2,q3,q4,_,bs,b1,b2,b3⟩
    have fin:LeavesInM Fence.wide 0 P fn a'.tmps (fun e w'=> ∃v M' Tj,e= .returned v∧cn w0 M' Tj (bP s') w'∧M'.upto s'.length∧M.Le M'∧cj M' (Cd l) v) a'.defers .returning w':=by
     rw [b1]
     refine pw bs q1 b2 (fun b hb=>(b3 b hb).1) fun f w2 WM UF=> ?_
     have q4':cA { M' with fW:=f } t' a'.tmps:=⟨q4.1,fun i d v p q=>(q4.2 i d v p q).Qu⟩
     obtain ⟨v,r1,r2⟩:=zR UF q4' hl
     exact ⟨v,r2,v,_,Tj,rfl,UF,⟨q2.1,q2.2⟩,⟨q3.cell,q3.box,q3.b9,fun b hb=>WM b (q3.fW b hb) (fun hm=>(b3 b hm).2 hb)⟩,r1⟩
    cases ex with
    |exit i=>exact absurd rfl (hex i)
    |norm=>cases e<;>simp only [Ex.is] at h0;exact fin
    |ret=>cases e<;>simp only [Ex.is] at h0;exact fin
  split at h1
  ·cases h1
  ·rename_i hex
   split at h1
   ·rename_i l hl
    exact ⟨_,_,z',h1,fun c=>⟨(h2 c).1,main hl (fun i hi=>hex i hi) (h2 c).2⟩⟩
   ·cases h1
 ·cases h
theorem BK {inl:FL P ρ'} (TM:lQ P inl) (hm:P.follows .mixedOrders=true) {id:Nat} {args:List D} {s:List Ob} {z:Z P} {K:D→List Ob→Z P→Option ρ'} (h:BL P inl id args s z K=some r):
  ∃d s' z',K d s' z'=some r∧(z'.c→z.c∧yB P id args s d s'):=by
 unfold BL at h
 split at h
 ·rename_i t ps ag bd hs
  obtain ⟨hle,h⟩:=b8 h
  rw [Z3] at hle
  rw [hJ] at h
  obtain ⟨ex,t2,s2,z1,h1,h2⟩:=fX (rd:=true) TM hm ag h
  split at h1
  ·split at h1
   ·rename_i t' Ya X5 X6 WV
    rw [jh] at h1
    obtain ⟨ex2,t4,s4,z2,h3,h4⟩:=fX (rd:=true) TM hm bd h1
    split at h3
    ·rename_i t5 V6 Wc V0 Zc
     have main:∀(k:Lk) (j:Option Code),((ex2= .norm∧k= .ready∧j=none)∨(ex2= .ret∧k= .ret∧j=some .ret)∨∃i,ex2= .exit i∧k= .exit i∧j=some (.exit i))→
       bJ P true ag (mN t (ps.toList.zip args)) s .norm t2 s2→bJ P true bd t2 (s2.set id (.lp .busy t' Ya X5 X6)) ex2 t4 s4→yB P id args s (.bool j.isNone) (s4.set id (.lp k t5 V6 Wc V0)):=by
      intro k j YF WQ Vv
      have WH:=Vv.len
      rw [aaz] at WH
      refine ⟨by rw [aaz];exact aaS WQ.len WH,?_⟩
      intro w0 M own w vs l hw hu ha hb
      obtain ⟨l',rc,q⟩:=hw.lp id _ _ _ _ _ hs
      obtain rfl:l'=l:=by have:=q.box;rw [hb] at this;exact (ZE this).symm
      have Tw:vs.size=rc.params.size:=by rw [← ha.1,hle,q.ps]
      refine ⟨_,_,_,_,run_yield q.dQ Tw,?_⟩
      have htm:cA M (mN t (ps.toList.zip args)) ((rc.params.zip vs).foldl (fun tmps (x:Nat×Value)=>tmps.setIfInBounds x.1 x.2) rc.tmps):=by
       have:=cA.mN (ps:=ps.toList) (args:=args) (vs:=vs.toList) q.tm (by rw [ha.1];simp) (fun i d v p u=>ha.2 i d v p (by simpa using u))
       rw [q.ps,← Array.foldl_toList,Array.toList_zip]
       exact this
      refine roundIn_of_wpIn (F:=Fence.wide) (n:=0) trivial ?_
      rw [q.ag,q.bd]
      refine wpIn_mono (WQ.run (some l') (fun e=>by cases e) M.fW w0 M own w _ hw hu htm ⟨fun _ h=>h,[],rfl,List.nodup_nil,fun b hb=>by cases hb⟩) ?_
      rintro e a1 w1 ⟨h0,M1,own1,q1,q2,q3,q4,q5⟩
      cases e<;>simp only [Ex.is] at h0
      obtain ⟨l1,rc1,p1⟩:=q1.lp id _ _ _ _ _ WV
      obtain rfl:l1=l':=by have:=p1.box;rw [q3.box _ _ hb] at this;exact (ZE this).symm
      have Wh:=ik (s:=s2) (i:=id) (by rw [WV];simp)
      have UF:=q1.Jt (k':= .busy) (r':= { rc1 with state:= .busy }) p1 (.lp .busy t' Ya X5 X6) (.inr ⟨rfl,rfl,fun e=>absurd rfl e,rfl,rfl,rfl,rfl⟩)
      rw [← mL Wh] at UF
      refine ⟨_,run_beginRound p1.dQ p1.st,?_⟩
      refine wpIn_mono (Vv.run (some l1) (fun e=>by cases e) M.fW w0 M1 own1 _ a1 UF (by rw [aaz];exact q2) q4 q5) ?_
      rintro e2 a2 w3 ⟨Xn,M2,Uq,u1,u2,u3,u4,u5⟩
      obtain ⟨l2,rc2,p2⟩:=u1.lp id _ _ _ _ _ Zc
      obtain rfl:l2=l1:=by have:=p2.box;rw [u3.box _ _ (q3.box _ _ hb)] at this;exact (ZE this).symm
      have Y2:=ik (s:=s4) (i:=id) (by rw [Zc];simp)
      have XQ:=u1.Jt (k':=k) (r':= { rc2 with state:=if j.isNone then .ready else .done,pending:=j }) p2 (.lp k t5 V6 Wc V0) (.inr ⟨rfl,by
       rcases YF with ⟨_,rfl,rfl⟩|⟨_,rfl,rfl⟩|⟨i,_,rfl,rfl⟩<;>rfl,fun _=>by
       rcases YF with ⟨_,rfl,rfl⟩|⟨_,rfl,rfl⟩|⟨i,_,rfl,rfl⟩<;>rfl,rfl,rfl,rfl,rfl⟩)
      rw [← mL Y2] at XQ
      have fin:∃v w',(Instr.endRound l2 j).run P w3= .ok v w'∧∃v' M' Tj,Ending.returned v= .returned v'∧cn w0 M' Tj (bP (s4.set id (.lp k t5 V6 Wc V0))) w'∧M'.upto (s4.set id (.lp k t5 V6 Wc V0)).length∧M.Le M'∧cj M' (.bool j.isNone) v':=
       ⟨_,_,run_endRound j p2.dQ,_,M2,Uq,rfl,XQ,by rw [aaz];exact u2,q3.trans u3,.bool _⟩
      rcases YF with ⟨rfl,rfl,rfl⟩|⟨rfl,rfl,rfl⟩|⟨i,rfl,rfl,rfl⟩
      ·cases e2<;>simp only [Ex.is] at Xn
       exact fin
      ·cases e2<;>simp only [Ex.is] at Xn
       exact fin
      ·cases e2<;>simp only [Ex.is] at Xn
       subst Xn
       exact fin
     split at h3
     ·rw [jh] at h3
      exact ⟨_,_,z2,h3,fun c=>⟨(h2 (h4 c).1).1,main .ready none (.inl ⟨rfl,rfl,rfl⟩) (h2 (h4 c).1).2 (h4 c).2⟩⟩
     ·rw [jh] at h3
      exact ⟨_,_,z2,h3,fun c=>⟨(h2 (h4 c).1).1,main .ret (some .ret) (.inr (.inl ⟨rfl,rfl,rfl⟩)) (h2 (h4 c).1).2 (h4 c).2⟩⟩
     ·rename_i i
      rw [jh] at h3
      exact ⟨_,_,z2,h3,fun c=>⟨(h2 (h4 c).1).1,main (.exit i) (some (.exit i)) (.inr (.inr ⟨i,rfl,rfl,rfl⟩)) (h2 (h4 c).1).2 (h4 c).2⟩⟩
    ·cases h3
   ·cases h1
  ·cases h1
 ·cases h
theorem jB (hm:P.follows .mixedOrders=true):∀n:Nat,lQ P (sW (ρ:=ρ') P n)
 |0=>fun g args s z K r h=>by simp [sW] at h
 |n+1=>fun g args s z K r h=>by
  rw [sW] at h
  simp only [] at h
  cases g with
  |fn f=>
   simp only [] at h
   split at h
   ·rename_i fn hf
    obtain ⟨hn,h⟩:=b8 h
    exact vw (jB hm n) hm hf (by simpa using hn) h
   ·cases h
  |yl id=>
   simp only [] at h
   exact BK (jB hm n) hm h
end
section
variable {P:Program}
theorem qu {M:MM} {s:List Ob} {d:D} {v:Value} (h:cj M d v) (hc:d.clean=true):cj (gk M.cell) (kS s d) v:=by
 unfold kS
 split
 ·rename_i id ver sz xs
  have h1:=h.pQ hc
  have:∀o:lP,(o= .no∨∃k,o= .fresh k)→cj (gk M.cell) (.bc o sz xs) v:=by
   intro o ho
   cases h1 with
   |bc b off vs hl Tm ha Tw T3 hr Ty _=>exact .bc b off vs hl Tm ha Tw T3 hr Ty (by rcases ho with rfl|⟨k,rfl⟩<;>trivial)
  split
  ·split
   ·exact this _ (.inr ⟨_,rfl⟩)
   ·exact this _ (.inl rfl)
  ·exact this _ (.inl rfl)
 ·exact h.pQ hc
theorem ye {d:D} {sz TH:Nat} {xs:List D} :d.bn≠ .bc (.fresh sz) TH xs:=by
 intro h
 cases d<;>simp only [D.bn,reduceCtorEq] at h
 case bc o _ _=>cases o<;>simp [lP.bn] at h
theorem nV {w0:eW} (hX:∀b,¬w0.X b→w0.w.heap.size≤b) {M:MM} {own:Nat→Option Nat} {w:World} {s:List Ob} (hw:cn w0 M own (bP s) w) {d:D} {v:Value} (h:cj M d v) {sz TH:Nat} {xs:List D} (e:kS s d= .bc (.fresh sz) TH xs):
  ∃a len cap,v= .slice a len cap∧TH=sz∧ki w0.w.heap.size w M.cell sz a len cap:=by
 unfold kS at e
 split at e
 ·rename_i id ver YI YM
  split at e
  ·rename_i v' Un hs
   split at e
   ·rename_i hb
    simp only [ZD,Z3] at hb
    obtain ⟨rfl,rfl⟩:=hb
    simp only [D.bc.injEq,lP.fresh.injEq] at e
    obtain ⟨rfl,rfl,rfl⟩:=e
    obtain ⟨a,len,cap,k⟩:=hw.ey id ver YI hs
    cases h with
    |bc b off vs hl Tm ha Tw T3 hr Ty ho=>
     have:M.b9 id ver=some _:=ho
     rw [k.b9] at this
     obtain ⟨rfl,rfl,rfl⟩:=Value.slice.inj (ZE this)
     refine ⟨_,_,_,rfl,rfl,?_⟩
     rcases k.room with q|⟨b,vs,ty,fz,q,r⟩
     ·exact .inl q
     ·exact .inr ⟨b,vs,ty,fz,q,hX _ r.base,r.dQ,r.fz,r.cap,r.none⟩
   ·cases e
  ·cases e
 ·exact absurd e ye
theorem JM {w0:eW} (hX:∀b,¬w0.X b→w0.w.heap.size≤b) {M:MM} {own:Nat→Option Nat} {w:World} {s:List Ob} (hw:cn w0 M own (bP s) w) {d:D} {v:Value} (h:cj M d v) (hc:d.clean=true):cj (gk M.cell) (GX s d) v∧Ej w0.w.heap.size w M.cell (GX s d) v:=by
 by_cases ht:∃ds,d= .aL ds
 ·obtain ⟨ds,rfl⟩:=ht
  cases h with
  |aL hl r=>
   rename_i vs
   rw [D.clean,D.kg,aab] at hc
   refine ⟨.aL (by simpa using hl) ?_,?_,?_⟩
   ·intro i d v a b
    rw [ZU,ZS] at a
    obtain ⟨d0,h0,rfl⟩:=a
    exact qu (r i d0 v h0 b) (hc _ (Z1 h0))
   ·intro sz TH xs e;simp [GX] at e
   ·intro Ye vs' e1 e2 i sz TH xs hi
    simp only [GX,D.aL.injEq] at e1
    obtain rfl:=Value.tuple.inj e2
    subst e1
    rw [ZU,ZS] at hi
    obtain ⟨d0,h0,e⟩:=hi
    have Tq:i<vs.size:=by
     rw [← hl]
     rcases ZY i ds.length with q|q
     ·exact q
     ·rw [ZN q] at h0;cases h0
    obtain ⟨a,len,cap,k1,k2,k3⟩:=nV hX hw (r i d0 vs[i] h0 (by simp [Tq])) e
    exact ⟨a,len,cap,by simp [Tq,k1],k2,k3⟩
 ·have e:GX s d=kS s d:=by
   cases d<;>first|rfl|exact absurd ⟨_,rfl⟩ ht
  rw [e]
  refine ⟨qu h hc,fun sz TH xs q=>nV hX hw h q,fun ds vs q=> ?_⟩
  exfalso
  unfold kS at q
  split at q
  ·split at q
   ·split at q<;>cases q
   ·cases q
  ·cases d<;>simp only [D.bn,reduceCtorEq] at q
   exact ht ⟨_,rfl⟩
theorem aQ.aj (hm:P.follows .mixedOrders=true) {f:FuncId} {fn:Func} (hf:P.funcs[f]? =some fn) (hn:(fn.name== "runtime.NumGoroutine")=false) {args:List D} {d:D} (o:List (Ev P))
  (h:yb P fn args o=some (d,sj o True):=by kernel_rfl):aQ P f args d:=by
 unfold yb at h
 obtain ⟨d0,s',z',h1,h2⟩:=vw (jB hm 20) hm hf hn h
 obtain ⟨hc,h1⟩:=b8 h1
 split at h1
 ·simp only [ZK,aaB] at h1
  obtain ⟨rfl,hz⟩:=h1
  have TC:=(h2 (by rw [hz];exact lW o trivial)).2
  refine ⟨TC.Ij,fun w C vs hC ha=>Calls.mono (TC.run ⟨w,C,fun k=>k<w.heap.size⟩ (gk C) (fun _=>none) w vs ?_ ⟨fun _ _=>rfl,fun _ _ _=>rfl⟩ ha) ?_⟩
  ·refine ⟨.of _,hC,?_,?_,?_,?_,?_,?_,fun b hb=>hb.elim⟩
   ·intro b o v k _;exact k
   ·intro b i k;cases k
   ·intro i cs k;simp [bP] at k
   ·intro i v sz k;simp [bP] at k
   ·intro i F q;simp [bP,Ob.CN] at q
   ·intro i k t ps ag bd q;simp [bP] at q
  ·rintro e w' ⟨v,M',Tj,rfl,q1,q2,q3,q4⟩
   obtain ⟨r1,r2⟩:=JM (fun _ h=>Nat.le_of_not_lt h) q1 q4 hc
   exact ⟨v,M'.cell,rfl,⟨q1.below.below,q3.cell,q1.mI,q1.cells⟩,r1,r2⟩
 ·cases h1
theorem aQ.cast {f:FuncId} {args WD:List D} {d d':D} (h:aQ P f args d) (ha:args=WD) (hd:d=d'):aQ P f WD d':=ha▸hd▸h
theorem mw.aj (hm:P.follows .mixedOrders=true) {c:Code} {t:List D} {s:List Ob} {ex:Ex} {t':List D} {s':List Ob} (o:List (Ev P))
  (h:evalCode P c t s o=some ((ex,t',s'),sj o True)):mw P c t s ex t' s':=by
 unfold evalCode at h
 obtain ⟨XX,t1,s1,z',h1,h2⟩:=fX (rd:=true) (jB hm 20) hm c h
 split at h1
 ·simp only [ZK,aaB] at h1
  obtain ⟨⟨rfl,rfl,rfl⟩,hz⟩:=h1
  exact (h2 (by rw [hz];exact lW o trivial)).2
 ·cases h1
structure aF (P:Program) (c:Code) (sp:HS) (n0:Nat) (t:List D) (s:List Ob) (ex:Ex) (t':List D) (s':List Ob):Prop where
  run:∃t1 s1,mw P c t s ex t1 s1∧pz sp n0 t1 s1=some (t',s')∧sY sp t1 s1
theorem aF.aj (hm:P.follows .mixedOrders=true) {c:Code} {sp:HS} {n0:Nat} {t:List D} {s:List Ob} {ex:Ex} {t':List D} {s':List Ob} (o:List (Ev P))
  (h:vp P c sp n0 t s o=some ((ex,t',s'),sj o True):=by kernel_rfl):aF P c sp n0 t s ex t' s':=by
 unfold vp at h
 obtain ⟨XX,t1,s1,z',h1,h2⟩:=fX (rd:=true) (jB hm 20) hm c h
 split at h1
 ·rename_i t2 s2 hh
  obtain ⟨z2,h3,h4⟩:=pH h1
  split at h3
  ·simp only [ZK,aaB] at h3
   obtain ⟨⟨rfl,rfl,rfl⟩,hz⟩:=h3
   have VJ:=h4 (by rw [hz];exact lW o trivial)
   exact ⟨t1,s1,(h2 VJ.1).2,hh,VJ.2⟩
  ·cases h3
 ·cases h1
theorem aF.piece {c:Code} {sp:HS} {n0:Nat} {t t':List D} {s s':List Ob} {ex:Ex} (hn:n0≤s.length) (h:aF P c sp n0 t s ex t' s'):cS P n0 c t s ex t' s':=by
 obtain ⟨t1,s1,h1,h2,h3⟩:=h.run
 obtain ⟨hl,hhead⟩:=nH h2 h3
 refine ⟨fun rr K w0 M own w a hw hu ht hd=> ?_,hl.1⟩
 refine wpIn_mono (h1.run rr (fun e=>by cases e) K w0 M own w a hw hu ht hd) ?_
 rintro e a' w' ⟨h0,M1,own1,q1,q2,q3,q4,q5⟩
 obtain ⟨M2,Uq,r1,r2,r3,r4⟩:=hhead (aaS hn h1.len) q1 q2 q4
 exact ⟨h0,M2,Uq,r1,r2,(MM.m8 q3 n0).trans r3,r4,q5.mono r3.fW⟩
theorem cX.j4 {c:Code} {sp:HS} {n0:Nat} {t t2:List D} {s s2:List Ob} {ex:Ex} {t':List D} {s':List Ob} (h:aF P c sp n0 t s .norm t2 s2) (k:cX P c n0 t2 s2 ex t' s'):cX P c n0 t s ex t' s':=
 let ⟨_,_,h1,h2,h3⟩:=h.run
 .again sp h1 h2 h3 k
theorem cX.last {c:Code} {sp:HS} {n0:Nat} {t:List D} {s:List Ob} {ex:Ex} {t':List D} {s':List Ob} (h:aF P c sp n0 t s ex t' s') (hx:ex≠ .norm):cX P c n0 t s ex t' s':=
 let ⟨_,_,h1,h2,h3⟩:=h.run
 .out sp h1 hx h2 h3
def qH (aV:List Nat):Nat→List Ob→List Ob
  |_,[]=> []
  |i,o::r=>(match jQ i aV with|true=>o|false=> .dead)::qH aV (i+1) r
def A4 (P:Program) (g:FuncId) (args:List D) (s:List Ob) (aV:List Nat) (o:List (Ev P)):Option ((D×List Ob)×Prop):=
  sW P 20 (.fn g) args s ⟨o,True⟩ fun d s' z=>match z.o with| []=>some ((d,qH aV 0 s'),z.c)|_=>none
theorem qk (aV:List Nat):∀(s:List Ob) (i:Nat),(qH aV i s).length=s.length
 | [],_=>rfl
 |o::r,i=>by simp [qH,qk aV r]
theorem Bb (aV:List Nat):∀(s:List Ob) (i k:Nat),(qH aV i s).getD k .dead=s.getD k .dead∨(qH aV i s).getD k .dead= .dead
 | [],_,_=> .inl rfl
 |o::r,i,0=>by
  simp only [qH,List.getD_cons_zero]
  split
  ·exact .inl rfl
  ·exact .inr rfl
 |o::r,i,k+1=>by simp only [qH,List.getD_cons_succ];exact Bb aV r (i+1) k
theorem cn.sub {w0:eW} {M:MM} {own:Nat→Option Nat} {σ σ':Nat→Ob} {w:World} (h:cn w0 M own σ w) (hs:∀i,σ' i=σ i∨σ' i= .dead):cn w0 M own σ' w:=by
 have TE:∀ {i:Nat} {o:Ob},σ' i=o→o≠ .dead→σ i=o:=fun {i o} e hn=>by
  rcases hs i with q|q
  ·rw [← q];exact e
  ·exact absurd (e▸q:o= .dead) hn
 exact ⟨h.below,h.cells,h.mI,h.owned,fun i cs e=>h.box i cs (TE e (by simp)),fun i v sz e=>h.ey i v sz (TE e (by simp)),(fun i F e=>(hs i).elim (fun q=>h.mp i F (by rw [← q];exact e)) (fun q=>by rw [q] at e;cases e)),
  fun i k t ps ag bd e=>h.lp i k t ps ag bd (TE e (by simp)),h.fW⟩
theorem ao.aj (hm:P.follows .mixedOrders=true) {g:FuncId} {args:List D} {s:List Ob} {d:D} {s':List Ob} {aV:List Nat} (o:List (Ev P))
  (h:A4 P g args s aV o=some ((d,s'),sj o True):=by kernel_rfl):ao P g args s d s':=by
 unfold A4 at h
 obtain ⟨d1,s1,z',h1,h2⟩:=jB hm 20 (.fn g) args s _ _ _ h
 split at h1
 ·simp only [ZK,aaB] at h1
  obtain ⟨⟨rfl,rfl⟩,hz⟩:=h1
  have TC:ao P g args s d1 s1:=(h2 (by rw [hz];exact lW o trivial)).2
  refine ⟨TC.Ij,by rw [qk];exact TC.len,fun w0 M own w vs hw hu ha=>Calls.mono (TC.run w0 M own w vs hw hu ha) ?_⟩
  rintro e w' ⟨v,M',Tj,rfl,q1,q2,q3,q4⟩
  exact ⟨v,M',Tj,rfl,q1.sub (fun i=>Bb aV s1 0 i),by rw [qk];exact q2,q3,q4⟩
 ·cases h1
theorem ao.cast {g:FuncId} {args:List D} {s:List Ob} {d d':D} {s1 s2:List Ob} (h:ao P g args s d s1) (h1:d=d') (h2:s1=s2):ao P g args s d' s2:=h1▸h2▸h
end
variable {P:Program}
def QF (s:List Ob) (id sz n:Nat):Option D:=match s.getD id .dead with
  | .box cs=>match Nat.beq cs.length (n*sz)&&cs.all D.clean&&cs.all (fun c=>storable c.bn) with
    |true=>some (.bc .no sz (rows sz n (cs.map D.bn)))
    |false=>none
  |_=>none
def QH (P:Program) (fn:Func) (args:List D) (o:List (Ev P)):Option (D×Prop):=
  vx P (sW P 20) fn args [] ⟨o,True⟩ fun d s z=>match d with
    | .aL (.dz id sz n::r)=>match QF s id sz n with
      |some x=>jC (r.all D.clean) (match z.o with| []=>some (.aL (x::r.map D.bn),z.c)|_=>none)
      |none=>none
    |_=>none
def QG (P:Program) (fn:Func) (args:List D) (o:List (Ev P)):Option ((D×List Ob)×Prop):=
  vx P (sW P 20) fn args [] ⟨o,True⟩ fun d s z=>match z.o with| []=>some ((d,s),z.c)|_=>none
def SS (s:List Ob) (d:D):Option D:=match d with
  | .aL (.dz id sz n::r)=>match QF s id sz n with
    |some x=>some (.aL (x::r.map D.bn))
    |none=>none
  |_=>none
end Go.Ev
