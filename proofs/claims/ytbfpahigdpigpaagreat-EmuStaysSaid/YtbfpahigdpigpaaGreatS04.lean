import Derived.LoopN
import Derived.LoopNIn
import Derived.Scope
import Derived.RangeFuncRecord
import Derived.Test.YtbfpahigdpigpaaGreatS02
import Derived.Test.YtbfpahigdpigpaaGreatS03
open Option.some renaming inj→Xo,injEq→Xv
open Bool renaming and_eq_true→Xp,or_eq_true→XM,not_eq_true'→X8
open List renaming getD_eq_getElem?_getD→Xr,length_append→Xu,getElem?_eq_none→Xy,getElem?_map→XH,mem_of_getElem? →XP,all_eq_true→XZ,length_set→Ym,getElem?_cons_zero→Yr,getElem?_cons_succ→Yw,mem_cons→Yx
open Nat renaming le_refl→XC,lt_or_ge→XL,beq_eq→XR,zero_add→Yl,ble_eq→YB,le_trans→YG,ble→YH
open Option renaming map_eq_some_iff→XF,bind_some→YK
open Go.Sem renaming run_bind→XK,run_pure→XQ
open Prod.mk renaming injEq→Yv
/- Contracts and plain laws that a statement's proof leans on (texts merged:EvQ,EvP). -/
set_option linter.unusedVariables false
set_option linter.unusedSimpArgs false
namespace Go.Ev
open Go Go.RowKit
theorem k9 {i:Nat} :∀ {l:List Nat},jG i l=true↔i∈l
 | []=>by simp [jG]
 |a::r=>by
  unfold jG
  split
  ·rename_i h;rw [XR] at h;subst h;simp
  ·rename_i h
   rw [k9]
   have:a≠i:=fun e=>by subst e;simp at h
   simp [Ne.symm this]
theorem MM.mj {M M':MM} (h:M.Le M') (n:Nat):(M.cut n).Le (M'.cut n):=by
 refine ⟨h.cell,fun i b k=> ?_,fun i v b k=> ?_,h.fV⟩
 ·simp only [MM.cut] at k ⊢
  split at k
  ·rename_i q;rw [if_pos q];exact h.box _ _ k
  ·cases k
 ·simp only [MM.cut] at k ⊢
  split at k
  ·rename_i q;rw [if_pos q];exact h.cu _ _ _ k
  ·cases k
theorem MM.wT {M:MM} {n:Nat} :((M.cut n).cut n)=M.cut n:=by
 unfold MM.cut
 congr 1
 ·funext i;by_cases h:i<n<;>simp [h]
 ·funext i v;by_cases h:i<n<;>simp [h]
theorem MM.M8 {M:MM} {n:Nat} (h:M.upto n):M.Le (M.cut n):=by
 refine ⟨fun _ _ _ h=>h,fun i b k=> ?_,fun i v b k=> ?_,fun _ h=>h⟩
 ·simp only [MM.cut]
  split
  ·exact k
  ·rw [h.1 i (by omega)] at k;cases k
 ·simp only [MM.cut]
  split
  ·exact k
  ·rw [h.2 i v (by omega)] at k;cases k
theorem j9 (n:Nat):∀l:List D,lT n l=l.all (ny n)
 | []=>by simp [lT]
 |d::r=>by simp [lT,j9 n r]
theorem cz.cut {M:MM} {d:D} {v:Value} (h:cz M d v):∀ {n:Nat},ny n d=true→cz (M.cut n) d v:=by
 induction h with
 |undef v=>exact fun _=> .undef v
 |int k n=>exact fun _=> .int k n
 |bool b=>exact fun _=> .bool b
 |str s=>exact fun _=> .str s
 |ik=>exact fun _=> .ik
 |ptr q h=>intro n c;simp only [ny,Nat.blt_eq] at c;exact .ptr q (by simp only [MM.cut,c,if_true];exact h)
 |eV q vs hx hc hr ih=>intro n c;exact .eV q vs hx hc hr
 |gj h=>intro n c;simp only [ny,Nat.blt_eq] at c;exact .gj (by simp only [MM.cut,c,if_true];exact h)
 |je h=>intro n c;simp only [ny,Nat.blt_eq] at c;exact .je (by simp only [MM.cut,c,if_true];exact h)
 |ez h hh hc=>intro n c;simp only [ny,Nat.blt_eq] at c;exact .ez (by simp only [MM.cut,c,if_true];exact h) (by simp only [MM.cut,c,if_true];exact hh) hc
 |sub h hc hp ho=>intro n c;simp only [ny,Nat.blt_eq] at c;exact .sub (by simp only [MM.cut,c,if_true];exact h) hc hp ho
 |bc b off vs hl QP ha QX hc hr QT ho ih=>
  intro n c
  refine .bc b off vs hl QP ha QX hc hr QT ?_
  rename_i M o _ _ _ _ _
  cases o with
  |tok t v=>simp only [ny,Nat.blt_eq] at c;simp only [MM.o6,MM.cut,c,if_true];exact ho
  |no=>trivial
  |fresh k=>trivial
  |tight=>exact ho
 |cm=>exact fun _=> .cm
 |fn h1 h2 r1 r2 i1 i2=>
  intro n c
  rw [ny,j9,j9,Xp,XZ,XZ] at c
  exact .fn h1 h2 (fun i d v a b=>i1 i d v a b (c.1 _ (XP a))) (fun i d v a b=>i2 i d v a b (c.2 _ (XP a)))
 |agg h r ih=>
  intro n c
  rw [ny,j9,XZ] at c
  exact .agg h (fun i d v a b=>ih i d v a b (c _ (XP a)))
 |aQ h r ih=>
  intro n c
  rw [ny,j9,XZ] at c
  exact .aQ h (fun i d v a b=>ih i d v a b (c _ (XP a)))
theorem pk {s:List Ob} {size id:Nat} {d d':D} {o:Option Nat} {ob:Ob} (h:rM s size id d=some (d',o,ob)):
  (∃fl sz xs,d= .bc fl sz xs∧d'= .bc (.tok id 0) size xs∧ob= .cM 0 size∧(sz=size∨xs= [])∧((fl= .tight∧o=none)∨∃i v,fl= .tok i v∧o=some i∧s.getD i .dead= .cM v size))∨
  (∃i n cs,d= .ez i size n∧d'= .ez id size n∧o=some i∧s.getD i .dead= .box cs∧ob= .box (cs.map D.bu)):=by
 unfold rM at h
 split at h
 ·rename_i sz xs
  split at h
  ·rename_i hk
   simp only [Xv,Yv] at h
   obtain ⟨rfl,rfl,rfl⟩:=h
   simp only [wc,XM,XR,List.isEmpty_iff] at hk
   exact .inl ⟨_,sz,xs,rfl,rfl,rfl,hk,.inl ⟨rfl,rfl⟩⟩
  ·cases h
 ·rename_i i v sz xs
  split at h
  ·rename_i v' RX hs
   split at h
   ·rename_i hk
    simp only [Xv,Yv] at h
    obtain ⟨rfl,rfl,rfl⟩:=h
    simp only [wc,XM,Xp,XR,List.isEmpty_iff] at hk
    obtain ⟨rfl,rfl,hk⟩:=hk
    exact .inl ⟨_,sz,xs,rfl,rfl,rfl,hk,.inr ⟨i,v',rfl,rfl,hs⟩⟩
   ·cases h
  ·cases h
 ·rename_i i sz n
  split at h
  ·rename_i cs hs
   split at h
   ·rename_i hk
    rw [XR] at hk
    subst hk
    simp only [Xv,Yv] at h
    obtain ⟨rfl,rfl,rfl⟩:=h
    exact .inr ⟨i,n,cs,rfl,rfl,rfl,hs,rfl⟩
   ·cases h
  ·cases h
 ·cases h
theorem tN {t:List D} {s:List Ob} :∀ {fs:List (Nat×Nat)} {id:Nat} {used:List (Option Nat)} {new:List Ob},yG t s fs id=some (used,new)→
  (used.length=fs.length∧new.length=fs.length)∧∀(j k size:Nat),fs[j]? =some (k,size)→∃d' o ob,rM s size (id+j) (jg t s k)=some (d',o,ob)∧used[j]? =some o∧new[j]? =some ob
 | [],id,used,new,h=>by
  simp only [yG,Xv,Yv] at h
  obtain ⟨rfl,rfl⟩:=h
  exact ⟨⟨rfl,rfl⟩,fun j k size h=>by simp at h⟩
 |(k,size)::r,id,used,new,h=>by
  simp only [yG] at h
  split at h
  ·rename_i d' o ob l MQ h1 h2
   simp only [Xv,Yv] at h
   obtain ⟨rfl,rfl⟩:=h
   obtain ⟨k1,k2⟩:=tN h2
   refine ⟨by simp [k1.1,k1.2],fun j k' Vh hj=> ?_⟩
   cases j with
   |zero=>
    simp only [Yr,Xv,Yv] at hj
    obtain ⟨rfl,rfl⟩:=hj
    exact ⟨d',o,ob,h1,rfl,rfl⟩
   |succ j=>
    simp only [Yw] at hj
    obtain ⟨d2,o2,ob2,q1,q2,q3⟩:=k2 j k' Vh hj
    exact ⟨d2,o2,ob2,by rw [show id+(j+1)=id+1+j by omega];exact q1,by simpa using q2,by simpa using q3⟩
  ·cases h
theorem pv {i:Nat} :∀ {fs:List (Nat×Nat)} {id TJ size:Nat},findF i fs id=some (TJ,size)→∃j,TJ=id+j∧fs[j]? =some (i,size)
 | [],id,TJ,size,h=>by simp [findF] at h
 |(k,sz)::r,id,TJ,size,h=>by
  simp only [findF] at h
  split at h
  ·rename_i hk
   rw [XR] at hk
   simp only [Xv,Yv] at h
   obtain ⟨rfl,rfl⟩:=h
   exact ⟨0,rfl,by simp [hk]⟩
  ·obtain ⟨j,h1,h2⟩:=pv h
   exact ⟨j+1,by omega,by simpa using h2⟩
theorem FE {i:Nat} {fs:List (Nat×Nat)} {n0 id size:Nat} (h:Jc i fs n0=some (id,size)):i<eC∧findF i fs n0=some (id,size):=by
 unfold Jc at h
 split at h
 ·cases h
 ·rename_i hb
  refine ⟨?_,h⟩
  rcases XL i eC with q|q
  ·exact q
  ·rw [Nat.ble_eq_true_of_le q] at hb;cases hb
theorem FF {i j:Nat} {fs:List (Nat×Nat)} {n0 id size:Nat} (h:CV i j fs n0=some (id,size)):j<1000∧findF (eC+i*1000+j) fs n0=some (id,size):=by
 unfold CV at h
 split at h
 ·rename_i hb
  exact ⟨by rw [Nat.blt_eq] at hb;exact hb,h⟩
 ·cases h
theorem qK {sp:HS} {n0:Nat} {s:List Ob} :∀ {t:List D} {i:Nat} {t':List D},qL sp n0 s i t=some t'→
  t'.length=t.length∧∀k d d',t[k]? =some d→t'[k]? =some d'→G3 sp n0 s (i+k) d=some d'
 | [],i,t',h=>by
  simp only [qL,Xv] at h
  subst h
  exact ⟨rfl,fun k d d' h=>by simp at h⟩
 |d::r,i,t',h=>by
  simp only [qL] at h
  split at h
  ·rename_i d1 l h1 h2
   obtain rfl:=Xo h
   obtain ⟨k1,k2⟩:=qK h2
   refine ⟨by simp [k1],fun k d2 d3 a b=> ?_⟩
   cases k with
   |zero=>simp at a b;subst a b;exact h1
   |succ k=>
    simp at a b
    rw [show i+(k+1)=i+1+k by omega]
    exact k2 k d2 d3 a b
  ·cases h
theorem ss {sp:HS} {n0:Nat} {s:List Ob} {i:Nat} :∀ {cs:List D} {j:Nat} {Ru:List D},pA sp n0 s i j cs=some Ru→
  Ru.length=cs.length∧∀(k:Nat) (d d':D),cs[k]? =some d→Ru[k]? =some d'→(∃id size o ob,CV i (j+k) sp.ni n0=some (id,size)∧rM s size id d=some (d',o,ob))∨(ny n0 d=true∧d'=d)
 | [],j,Ru,h=>by
  simp only [pA,Xv] at h
  subst h
  exact ⟨rfl,fun k d d' h=>by simp at h⟩
 |a::r,j,Ru,h=>by
  rw [pA] at h
  split at h
  ·rename_i d1 l h1 h2
   obtain rfl:=Xo h
   obtain ⟨k1,k2⟩:=ss h2
   refine ⟨by simp [k1],fun k d d' p q=> ?_⟩
   cases k with
   |zero=>
    simp at p q
    subst p q
    split at h1
    ·rename_i id size hf
     split at h1
     ·rename_i d2 o hg
      obtain rfl:=Xo h1
      exact .inl ⟨id,size,o.1,o.2,hf,hg⟩
     ·cases h1
    ·split at h1
     ·rename_i RZ
      exact .inr ⟨RZ,(Xo h1).symm⟩
     ·cases h1
   |succ k=>
    simp at p q
    rw [show j+(k+1)=j+1+k by omega]
    exact k2 k d d' p q
  ·cases h
theorem yq {sp:HS} {n0:Nat} {s0:List Ob} {used:List (Option Nat)} {new:List Ob} :∀ {n i:Nat} {s s':List Ob},Ew sp n0 s0 used new n i s=some s'→
  ∃l,s'=l++new∧l.length=n∧∀k o,l[k]? =some o→∃o0,s[k]? =some o0∧OY sp n0 s0 used (i+k) o0=some o
 |0,i,s,s',h=>by
  simp only [Ew,Xv] at h
  exact ⟨[],by simp [h],rfl,fun k o h=>by simp at h⟩
 |n+1,i,[],s',h=>by simp [Ew] at h
 |n+1,i,o::r,s',h=>by
  simp only [Ew] at h
  split at h
  ·rename_i o' l h1 h2
   obtain rfl:=Xo h
   obtain ⟨l',rfl,k2,k3⟩:=yq h2
   refine ⟨o'::l',rfl,by simp [k2],fun k o2 hk=> ?_⟩
   cases k with
   |zero=>simp at hk;subst hk;exact ⟨o,rfl,h1⟩
   |succ k=>
    simp at hk
    obtain ⟨o0,q1,q2⟩:=k3 k o2 hk
    exact ⟨o0,by simpa using q1,by rw [show i+(k+1)=i+1+k by omega];exact q2⟩
  ·cases h
theorem oq {i:Nat} :∀ {l:List (Option Nat)},sZ i l=true↔some i∈l
 | []=>by simp [sZ]
 |none::r=>by simp [sZ,oq]
 |some a::r=>by
  unfold sZ
  split
  ·rename_i h;rw [XR] at h;subst h;simp
  ·rename_i h
   rw [oq]
   have:a≠i:=fun e=>by subst e;simp at h
   simp [Ne.symm this]
def lq (i:Nat):List (Option Nat)→Nat→Option Nat
  | [],_=>none
  |none::r,id=>lq i r (id+1)
  |some a::r,id=>if a=i then some id else lq i r (id+1)
theorem iI {i:Nat} :∀ {l:List (Option Nat)} {id:Nat},some i∉l→lq i l id=none
 | [],id,_=>rfl
 |none::r,id,h=>by simp only [lq];exact iI (by simpa using h)
 |some a::r,id,h=>by
  simp only [Yx,Xv,not_or] at h
  simp only [lq,if_neg (Ne.symm h.1)]
  exact iI h.2
theorem mI {i:Nat} :∀ {l:List (Option Nat)} {id j:Nat},uf l=true→l[j]? =some (some i)→lq i l id=some (id+j)
 | [],id,j,_,h=>by simp at h
 |none::r,id,j,hd,h=>by
  simp only [uf] at hd
  simp only [lq]
  cases j with
  |zero=>simp at h
  |succ j=>rw [show id+(j+1)=id+1+j by omega];exact mI hd (by simpa using h)
 |some a::r,id,j,hd,h=>by
  simp only [uf,Xp,X8] at hd
  simp only [lq]
  cases j with
  |zero=>simp at h;simp [h]
  |succ j=>
   have hm:some i∈r:=XP (by simpa using h)
   have:a≠i:=fun e=>by subst e;rw [oq.2 hm] at hd;simp at hd
   rw [if_neg this,show id+(j+1)=id+1+j by omega]
   exact mI hd.2 (by simpa using h)
def rJ (sp:HS) (t:List D) (s:List Ob):Prop:= ∀cs∈wv sp t s,∀c∈cs,c.clean=true
theorem nz {s:List Ob} {i:Nat} {cs:List D} (h:s.getD i .dead= .box cs):∀ {l:List Nat},jG (eC+i) l=true→cs∈pj s l
 | [],h1=>by simp [jG] at h1
 |o::r,h1=>by
  rw [k9] at h1
  rcases Yx.1 h1 with e|e
  ·rw [pj,← e,show YH eC (eC+i)=true by rw [YB];omega]
   simp only []
   rw [show eC+i - eC=i by omega,C3,h]
   simp
  ·rw [pj]
   split
   ·exact List.mem_append_right _ (nz h (k9.2 e))
   ·exact nz h (k9.2 e)
theorem rL {t:List D} {s:List Ob} {k size i sz n:Nat} {cs:List D} (hr:jg t s k= .ez i sz n) (h:s.getD i .dead= .box cs):∀ {l:List (Nat×Nat)} {j:Nat},l[j]? =some (k,size)→cs∈wy t s l
 | [],j,h1=>by simp at h1
 |(k',z)::r,j,h1=>by
  rw [wy]
  cases j with
  |zero=>
   simp only [Yr,Xv,Yv] at h1
   obtain ⟨rfl,rfl⟩:=h1
   rw [hr]
   simp only [C3,h]
   simp
  |succ j=>exact List.mem_append_right _ (rL hr h (by simpa using h1))
theorem rK {t:List D} {i:Nat} {cs:List D} (h:t.getD i .undef= .agg cs):∀ {l:List Nat},jG (eC+i) l=true→cs∈wx t l
 | [],q=>by cases q
 |o::r,q=>by
  rw [wx]
  rcases Yx.1 (k9.1 q) with e|e
  ·rw [← e,show YH eC (eC+i)=true by rw [YB];omega,show eC+i - eC=i by omega,h]
   simp
  ·exact List.mem_append_right _ (rK h (k9.2 e))
theorem ql {sp:HS} {n0:Nat} {s:List Ob} {used:List (Option Nat)} {i:Nat} {o0 o:Ob} (h:OY sp n0 s used i o0=some o) (hd:o≠ .dead):some i∉used∧
  ((∃cs,o0= .box cs∧o= .box (cs.map D.bu)∧jG (eC+i) sp.MQ=true)∨(∃cs,o0= .box cs∧o= .box cs∧lT n0 cs=true)∨(∃cs Ru,o0= .box cs∧o= .box Ru∧pA sp n0 s i 0 cs=some Ru)∨
   (∃k t ps ag bd,o0= .lp k t ps ag bd∧o= .lp k t ps ag bd∧lT n0 t=true)∨(o=o0∧(∀cs,o≠ .box cs)∧∀k t ps ag bd,o≠ .lp k t ps ag bd)):=by
 have nu:∀ {b:Bool},(b&& !sZ i used)=true→some i∉used:=fun {b} hk hm=>by
  simp only [Xp,X8] at hk
  rw [oq.2 hm] at hk
  simp at hk
 unfold OY at h
 split at h
 ·rename_i hk
  refine ⟨nu hk,?_⟩
  split at h
  ·rename_i cs
   simp only [Xp] at hk
   exact .inl ⟨cs,rfl,(Xo h).symm,hk.1⟩
  ·cases h
 ·split at h
  ·exact absurd (Xo h).symm hd
  ·rename_i hk
   refine ⟨nu hk,?_⟩
   split at h
   ·rename_i cs
    split at h
    ·rename_i Ru hc
     exact .inr (.inr (.inl ⟨cs,Ru,rfl,(Xo h).symm,hc⟩))
    ·cases h
   ·rename_i k t ps ag bd
    split at h
    ·rename_i RZ
     exact .inr (.inr (.inr (.inl ⟨k,t,ps,ag,bd,rfl,(Xo h).symm,RZ⟩)))
    ·cases h
   ·rename_i h1 h2
    obtain rfl:=Xo h
    exact .inr (.inr (.inr (.inr ⟨rfl,h1,h2⟩)))
theorem mO {sp:HS} {n0:Nat} {t t':List D} {s s':List Ob} (h:oo sp n0 t s=some (t',s')) (Ti:rJ sp t s):
  (n0≤s'.length∧s'.length=n0+sp.ni.length)∧∀ {w0:fg} {M:MM} {own:Nat→Option Nat} {w:World} {tmps:Array Value},n0≤s.length→cJ w0 M own (ca s) w→M.upto s.length→cN M t tmps→
   ∃M' QK,cJ w0 M' QK (ca s') w∧M'.upto s'.length∧(M.cut n0).Le M'∧cN M' t' tmps:=by
 unfold oo at h
 split at h
 ·rename_i used new hu
  split at h
  ·rename_i Us
   split at h
   ·rename_i t1 s1 ht hs
    simp only [Xv,Yv] at h
    obtain ⟨rfl,rfl⟩:=h
    obtain ⟨l,rfl,hl,hob⟩:=yq hs
    obtain ⟨ht1,Tu⟩:=qK ht
    obtain ⟨⟨W5,hu2⟩,hgrow⟩:=tN hu
    have hlen:(l++new).length=n0+sp.ni.length:=by simp [hl,hu2]
    refine ⟨⟨by omega,hlen⟩,?_⟩
    intro w0 M own w tmps hn hw SY QR
    let rv:Nat→Value:=fun k=>match YH eC k with
     |false=>tmps.getD k undef
     |true=>match M.box ((k - eC) / 1000) with
      |some b=>(w.cell? ⟨b,(k - eC)%1000,none⟩).getD undef
      |none=>undef
    have UQ:∀k,jg t s k≠ .undef→cz M (jg t s k) (rv k):=by
     intro k RR
     cases hb:YH eC k with
     |false=>
      simp only [jg,rv,hb]
      exact jV QR k
     |true=>
      simp only [jg,rv,hb] at RR ⊢
      split at RR
      ·rename_i cs QW
       obtain ⟨b,vs,ty,kb⟩:=hw.box _ cs QW
       have hc:∃d,cs[(k - eC)%1000]? =some d:=by
        cases e:cs[(k - eC)%1000]? with
        |none=>rw [Xr,e] at RR;exact absurd rfl RR
        |some d=>exact ⟨d,rfl⟩
       obtain ⟨d,hd⟩:=hc
       obtain ⟨u,h1,h2⟩:=mF kb.len kb.rep hd
       rw [kb.box,Xr,hd]
       simp only [World.cell?,kb.dZ,h1]
       exact h2
      ·exact absurd rfl RR
    let bxN:Nat→Option Nat:=fun j=>match sp.ni[j]? with
     |some (k,_)=>(match jg t s k with| .ez i _ _=>M.box i|_=>none)
     |none=>none
    let hdr:Nat→Nat→Option Value:=fun j v=>match sp.ni[j]? with
     |some (k,size)=>(match jg t s k with| .ez _ _ _=>(if v=size then some (rv k) else none)|_=>(if v=0 then some (rv k) else none))
     |none=>none
    let M':MM:=⟨M.cell,fun i=>if i<n0 then M.box i else bxN (i - n0),fun i v=>if i<n0 then M.cu i v else hdr (i - n0) v,M.fV⟩
    let ren:Nat→Option Nat:=fun i=>match lq i used n0 with|some k=>some k|none=>if i<n0 then some i else none
    let QK:Nat→Option Nat:=fun b=>(own b).bind ren
    have hle:(M.cut n0).Le M':=by
     refine ⟨fun _ _ _ h=>h,fun i b k=> ?_,fun i v b k=> ?_,fun _ h=>h⟩
     ·simp only [MM.cut] at k
      split at k
      ·rename_i q;simp only [M',if_pos q];exact k
      ·cases k
     ·simp only [MM.cut] at k
      split at k
      ·rename_i q;simp only [M',if_pos q];exact k
      ·cases k
    have root:∀(j k size:Nat),sp.ni[j]? =some (k,size)→
      (∃fl sz xs a len cap o,jg t s k= .bc fl sz xs∧rv k= .slice a len cap∧used[j]? =some o∧new[j]? =some (.cM 0 size)∧(sz=size∨xs= [])∧cz M (.bc fl sz xs) (.slice a len cap)∧((fl= .tight∧o=none)∨∃i v,fl= .tok i v∧o=some i∧s.getD i .dead= .cM v size))∨
      (∃i n cs b cap,jg t s k= .ez i size n∧rv k= .slice (some ⟨b,0,none⟩) n cap∧used[j]? =some (some i)∧new[j]? =some (.box (cs.map D.bu))∧s.getD i .dead= .box cs∧M.box i=some b∧M.cu i size=some (.slice (some ⟨b,0,none⟩) n cap)∧n≤cap∧∀c∈cs,c.clean=true):=by
     intro j k size hj
     obtain ⟨d',o,ob,h1,h2,h3⟩:=hgrow j k size hj
     rcases pk h1 with ⟨fl,sz,xs,q1,q2,rfl,q3,q4⟩|⟨i,n,cs,q1,q2,rfl,q3,rfl⟩
     ·have hr:=UQ k (by rw [q1];simp)
      rw [q1] at hr
      generalize hv:rv k=v at hr
      cases hr with
      |bc b off vs hl QP ha QX hc hr QT ho=>
       exact .inl ⟨fl,sz,xs,_,_,_,o,q1,rfl,h2,h3,q3,.bc b off vs hl QP ha QX hc hr QT ho,q4⟩
     ·have hr:=UQ k (by rw [q1];simp)
      rw [q1] at hr
      generalize hv:rv k=v at hr
      cases hr with
      |ez hb hh hc=>
       exact .inr ⟨i,n,cs,_,_,q1,rfl,h2,h3,q3,hb,hh,hc,Ti cs (List.mem_append_right _ (List.mem_append_left _ (rL q1 q3 hj)))⟩
    have newAt:∀ {i:Nat} {o:Ob},ca (l++new) i=o→o≠ .dead→(i<n0∧l[i]? =some o)∨(n0≤i∧∃k size,sp.ni[i - n0]? =some (k,size)∧new[i - n0]? =some o):=by
     intro i o hi RR
     unfold ca at hi
     rcases XL i l.length with QQ|hge
     ·rw [Xr,List.getElem?_append_left QQ] at hi
      rw [List.getElem?_eq_getElem QQ] at hi ⊢
      exact .inl ⟨by omega,by simpa using hi⟩
     ·rw [Xr,List.getElem?_append_right hge] at hi
      rw [hl] at hi hge
      cases e:new[i - n0]? with
      |none=>rw [e] at hi;exact absurd hi.symm RR
      |some x=>
       rw [e] at hi
       simp only [Option.getD_some] at hi
       subst hi
       have QQ:i - n0<sp.ni.length:=by
        rw [← hu2]
        rcases XL (i - n0) new.length with q|q
        ·exact q
        ·rw [Xy q] at e;cases e
       exact .inr ⟨hge,sp.ni[i - n0].1,sp.ni[i - n0].2,by simp [QQ],rfl⟩
    have ng:∀ {i:Nat} {o0:Ob},s[i]? =some o0→ca s i=o0:=fun {i o0} h1=>by unfold ca;rw [Xr,h1];rfl
    have TP:∀ {j k size:Nat} {fl:kp} {sz:Nat} {xs:List D},sp.ni[j]? =some (k,size)→jg t s k= .bc fl sz xs→cz M (.bc fl sz xs) (rv k)→(sz=size∨xs= [])→cz M' (.bc (.tok (n0+j) 0) size xs) (rv k):=by
     intro j k size fl sz xs hj q1 hr q3
     refine cz.resize (sz:=sz) ?_ q3
     generalize hv:rv k=v at hr
     cases hr with
     |bc b off vs TA QP ha QX hc hr QT ho=>
      refine .bc b off vs TA QP ha QX hc hr QT ?_
      simp only [MM.o6,M',if_neg (show ¬n0+j<n0 by omega),hdr,show n0+j - n0=j by omega,hj,q1,if_true,hv]
    have TU:∀ {j k size i n b cap:Nat},sp.ni[j]? =some (k,size)→jg t s k= .ez i size n→rv k= .slice (some ⟨b,0,none⟩) n cap→M.box i=some b→n≤cap→cz M' (.ez (n0+j) size n) (rv k):=by
     intro j k size i n b cap hj q1 hv hb hc
     rw [hv]
     refine .ez (b:=b) ?_ ?_ hc
     ·simp only [M',if_neg (show ¬n0+j<n0 by omega),bxN,show n0+j - n0=j by omega,hj,q1];exact hb
     ·simp only [M',if_neg (show ¬n0+j<n0 by omega),hdr,show n0+j - n0=j by omega,hj,q1,if_true,hv]
    refine ⟨M',QK,⟨hw.below,hw.cells,hw.ng,?_,?_,?_,?_,?_,hw.fV⟩,?_,hle,?_⟩
    ·intro b i k
     simp only [QK] at k
     cases e:own b with
     |none=>rw [e] at k;cases k
     |some i'=>exact hw.owned b i' e
    ·
     intro i cs hi
     rcases newAt hi (by simp) with ⟨QQ,hli⟩|⟨hge,k,size,hj,Rt⟩
     ·obtain ⟨o0,h1,h2⟩:=hob i _ hli
      rw [Yl] at h2
      obtain ⟨hnu,Ry⟩:=ql h2 (by simp)
      have kept:∀ {Tb:List D},o0= .box Tb→cs.length=Tb.length→(∀(b:Nat) (vs:Array Value) (ty:TypeId),sF w0 M own i Tb w b vs ty→∀(j:Nat) (d:D) (v:Value),cs[j]? =some d→vs[j]? =some v→cz M' d v)→∃b vs ty,sF w0 M' QK i cs w b vs ty:=by
       intro Tb e Wv U6
       subst e
       obtain ⟨b,vs,ty,k⟩:=hw.box i Tb (ng h1)
       refine ⟨b,vs,ty,by simp only [M',if_pos QQ];exact k.box,k.base,?_,k.none,k.dZ,by rw [Wv];exact k.len,U6 b vs ty k,fun sz a len cap q=>k.room sz a len cap (by simpa only [M',if_pos QQ] using q)⟩
       simp only [QK,k.own,YK,ren,iI hnu,if_pos QQ]
      rcases Ry with ⟨Tb,rfl,e,hm⟩|⟨Tb,rfl,e,RZ⟩|⟨Tb,Ru,rfl,e,hc⟩|⟨_,_,_,_,_,_,e,_⟩|⟨rfl,WB,_⟩
      ·obtain rfl:=Ob.box.inj e
       have UA:=Ti Tb (List.mem_append_left _ (nz (ng h1) hm))
       refine kept rfl (by simp) fun b vs ty k j d v p q=> ?_
       rw [XH,XF] at p
       obtain ⟨d0,p0,rfl⟩:=p
       exact ((k.rep j d0 v p0 q).oS (UA _ (XP p0))).mono (MM.lG M')
      ·obtain rfl:=Ob.box.inj e
       rw [j9,XZ] at RZ
       exact kept rfl rfl fun b vs ty k j d v p q=>((k.rep j d v p q).cut (RZ _ (XP p))).mono hle
      ·obtain rfl:=Ob.box.inj e
       obtain ⟨c1,c2⟩:=ss hc
       refine kept rfl c1 fun b vs ty k j d v p q=> ?_
       have hj0:j<Tb.length:=by
        rw [← c1]
        rcases XL j cs.length with h|h
        ·exact h
        ·rw [Xy h] at p;cases p
       have VQ:Tb[j]? =some Tb[j]:=by simp [hj0]
       rcases c2 j _ d VQ p with ⟨id,size,o,ob,hf,hg⟩|⟨RZ,rfl⟩
       ·rw [Yl] at hf
        obtain ⟨hj1,hf⟩:=FF hf
        obtain ⟨jj,rfl,hjj⟩:=pv hf
        obtain ⟨d2,o2,ob2,hg2,hu3,hn3⟩:=hgrow jj _ size hjj
        have e1:(eC+i*1000+j - eC) / 1000=i:=by omega
        have e2:(eC+i*1000+j - eC)%1000=j:=by omega
        have V0:YH eC (eC+i*1000+j)=true:=by rw [YB];omega
        have R8:jg t s (eC+i*1000+j)=Tb[j]:=by
         simp only [jg,V0,e1,e2]
         rw [show s.getD i .dead= .box Tb from ng h1]
         simp only []
         rw [Xr,VQ]
         rfl
        have Rb:rv (eC+i*1000+j)=v:=by
         simp only [rv,V0,e1,e2]
         rw [k.box]
         simp only [World.cell?,k.dZ,q]
         rfl
        rcases pk hg with ⟨fl,sz,xs,q1,rfl,_,q3,_⟩|⟨i',n,Ru,q1,rfl,_,q3,_⟩
        ·have hr:=TP hjj (R8.trans q1) (by rw [Rb,← q1];exact k.rep j _ v VQ q) q3
         rw [Rb] at hr
         exact hr
        ·rcases root jj _ size hjj with ⟨_,_,_,_,_,_,_,r1,_⟩|⟨i2,n2,TE,b2,cap2,r1,r2,_,_,_,r3,_,r4,_⟩
         ·rw [R8,q1] at r1;cases r1
         ·rw [R8,q1] at r1
          cases r1
          have hr:=TU hjj (R8.trans q1) r2 r3 r4
          rw [Rb] at hr
          exact hr
       ·exact ((k.rep j _ v VQ q).cut RZ).mono hle
      ·cases e
      ·exact absurd rfl (WB cs)
     ·rcases root _ k size hj with ⟨_,_,_,_,_,_,_,_,_,_,r,_⟩|⟨i',n,Tb,b,cap,q1,q2,q3,q4,q5,q6,q7,q8,q9⟩
      ·rw [Rt] at r;cases r
      ·rw [Rt] at q4
       obtain rfl:=Ob.box.inj (Xo q4)
       obtain ⟨b2,vs,ty,kb⟩:=hw.box i' Tb q5
       obtain rfl:b2=b:=by have:=kb.box;rw [q6] at this;exact (Xo this).symm
       have W7:¬i<n0:=by omega
       refine ⟨b2,vs,ty,?_,kb.base,?_,kb.none,kb.dZ,by simpa using kb.len,fun j d v p q=> ?_,fun sz a len RE q=> ?_⟩
       ·simp only [M',if_neg W7,bxN,hj,q1];exact q6
       ·simp only [QK,kb.own,YK,ren,mI Us q3]
        congr 1
        omega
       ·rw [XH,XF] at p
        obtain ⟨d0,p0,rfl⟩:=p
        exact ((kb.rep j d0 v p0 q).oS (q9 _ (XP p0))).mono (MM.lG M')
       ·simp only [M',if_neg W7,hdr,hj,q1] at q
        split at q
        ·rename_i e
         subst e
         rw [q2] at q
         obtain ⟨rfl,rfl,rfl⟩:=Value.slice.inj (Xo q)
         exact kb.room _ _ _ _ q7
        ·cases q
    ·
     intro i ver sz hi
     rcases newAt hi (by simp) with ⟨QQ,hli⟩|⟨hge,k,size,hj,Rt⟩
     ·obtain ⟨o0,h1,h2⟩:=hob i _ hli
      rw [Yl] at h2
      obtain ⟨hnu,Ry⟩:=ql h2 (by simp)
      have ho:o0= .cM ver sz:=by
       rcases Ry with ⟨_,_,e,_⟩|⟨_,_,e,_⟩|⟨_,_,_,e,_⟩|⟨_,_,_,_,_,_,e,_⟩|⟨rfl,_⟩
       ·cases e
       ·cases e
       ·cases e
       ·cases e
       ·rfl
      subst ho
      obtain ⟨a,len,cap,k⟩:=hw.cM i ver sz (ng h1)
      refine ⟨a,len,cap,by simp only [M',if_pos QQ];exact k.cu,fun v hv=>by simp only [M',if_pos QQ];exact k.last v hv,?_⟩
      rcases k.room with q|⟨b,vs,ty,fz,ha,r⟩
      ·exact .inl q
      ·refine .inr ⟨b,vs,ty,fz,ha,r.base,?_,r.dZ,r.fz,r.cap,r.none⟩
       simp only [QK,r.own,YK,ren,iI hnu,if_pos QQ]
     ·have Vi:¬i<n0:=by omega
      rcases root _ k size hj with ⟨fl,WQ,xs,a,len,cap,o,q1,q2,q3,q4,q5,q6,q7⟩|⟨_,_,_,_,_,_,_,_,r,_⟩
      ·rw [Rt] at q4
       obtain ⟨rfl,rfl⟩:=Ob.cM.inj (Xo q4)
       refine ⟨a,len,cap,?_,fun v hv=> ?_,?_⟩
       ·simp only [M',if_neg Vi,hdr,hj,q1,if_true,q2]
       ·simp only [M',if_neg Vi,hdr,hj,q1,if_neg (show ¬v=0 by omega)]
       ·cases q6 with
        |bc b off vs TA QP ha QX hc hr QT ho=>
         rcases q7 with ⟨rfl,rfl⟩|⟨i',v,rfl,rfl,hs'⟩
         ·exact .inl ho
         ·obtain ⟨a',QU,RE,k2⟩:=hw.cM i' v _ hs'
          have:M.cu i' v=some _:=ho
          rw [k2.cu] at this
          obtain ⟨rfl,rfl,rfl⟩:=Value.slice.inj (Xo this)
          rcases k2.room with q|⟨b,vs,ty,fz,ha,r⟩
          ·exact .inl q
          ·refine .inr ⟨b,vs,ty,fz,ha,r.base,?_,r.dZ,r.fz,r.cap,r.none⟩
           simp only [QK,r.own,YK,ren,mI Us q3]
           congr 1
           omega
      ·rw [Rt] at r;cases r
    ·
     intro i F hi
     obtain ⟨o,Vg⟩:∃o,ca (l++new) i=o:=⟨_,rfl⟩
     rw [Vg] at hi
     have nb:∀cs,o≠ .box cs:=fun cs e=>by rw [e] at hi;cases hi
     have nd:o≠ .dead:=fun e=>by rw [e] at hi;cases hi
     have nf:∀v sz,o≠ .cM v sz:=fun v sz e=>by rw [e] at hi;cases hi
     have nl:∀k t ps ag bd,o≠ .lp k t ps ag bd:=fun k t ps ag bd e=>by rw [e] at hi;cases hi
     rcases newAt Vg nd with ⟨QQ,hli⟩|⟨hge,k,size,hj,Rt⟩
     ·obtain ⟨o0,h1,h2⟩:=hob i _ hli
      rw [Yl] at h2
      obtain ⟨hnu,Ry⟩:=ql h2 nd
      have ho:o0=o:=by
       rcases Ry with ⟨_,_,e,_⟩|⟨_,_,e,_⟩|⟨_,_,_,e,_⟩|⟨_,_,_,_,_,_,e,_⟩|⟨rfl,_⟩
       ·exact absurd e (nb _)
       ·exact absurd e (nb _)
       ·exact absurd e (nb _)
       ·exact absurd e (nl _ _ _ _ _)
       ·rfl
      subst ho
      obtain ⟨b,QV,clock,k⟩:=hw.mp i F (by rw [ng h1];exact hi)
      refine ⟨b,QV,clock,by simp only [M',if_pos QQ];exact k.box,k.base,?_,k.none,k.dZ,k.fits⟩
      simp only [QK,k.own,YK,ren,iI hnu,if_pos QQ]
     ·rcases root _ k size hj with ⟨_,_,_,_,_,_,_,_,_,_,r,_⟩|⟨_,_,_,_,_,_,_,_,r,_⟩<;>rw [Rt] at r<;>obtain rfl:=Xo r
      ·exact absurd rfl (nf _ _)
      ·exact absurd rfl (nb _)
    ·
     intro i kk tt ps ag bd hi
     rcases newAt hi (by simp) with ⟨QQ,hli⟩|⟨hge,k,size,hj,Rt⟩
     ·obtain ⟨o0,h1,h2⟩:=hob i _ hli
      rw [Yl] at h2
      obtain ⟨hnu,Ry⟩:=ql h2 (by simp)
      have ho:o0= .lp kk tt ps ag bd∧lT n0 tt=true:=by
       rcases Ry with ⟨_,_,e,_⟩|⟨_,_,e,_⟩|⟨_,_,_,e,_⟩|⟨_,_,_,_,_,rfl,e,RZ⟩|⟨_,_,UX⟩
       ·cases e
       ·cases e
       ·cases e
       ·cases e;exact ⟨rfl,RZ⟩
       ·exact absurd rfl (UX _ _ _ _ _)
      obtain ⟨rfl,RZ⟩:=ho
      rw [j9,XZ] at RZ
      obtain ⟨b,r,k⟩:=hw.lp i kk tt ps ag bd (ng h1)
      refine ⟨b,r,by simp only [M',if_pos QQ];exact k.box,k.base,?_,k.dZ,k.st,k.pd,⟨k.tm.1,fun j d v p q=>((k.tm.2 j d v p q).cut (RZ _ (XP p))).mono hle⟩,k.ps,k.ag,k.bd⟩
      simp only [QK,k.own,YK,ren,iI hnu,if_pos QQ]
     ·rcases root _ k size hj with ⟨_,_,_,_,_,_,_,_,_,_,r,_⟩|⟨_,_,_,_,_,_,_,_,r,_⟩<;>rw [Rt] at r<;>cases r
    ·
     refine ⟨fun id RU=> ?_,fun id v RU=> ?_⟩
     ·simp only [M',if_neg (show ¬id<n0 by omega),bxN]
      rw [Xy (by omega)]
     ·simp only [M',if_neg (show ¬id<n0 by omega),hdr]
      rw [Xy (by omega)]
    ·
     refine ⟨by rw [ht1];exact QR.1,fun i d' v p q=> ?_⟩
     have WV:i<t.length:=by
      rcases XL i t.length with h|h
      ·exact h
      ·rw [Xy (by omega)] at p;cases p
     have hd:t[i]? =some t[i]:=by simp [WV]
     have SK:=Tu i _ d' hd p
     rw [Yl] at SK
     unfold G3 at SK
     split at SK
     ·rename_i id size hf
      split at SK
      ·rename_i d2 o hg
       obtain rfl:=Xo SK
       obtain ⟨hbi,hf⟩:=FE hf
       obtain ⟨j,rfl,hj⟩:=pv hf
       ·have Xe:YH eC i=false:=by
         cases e:YH eC i with
         |false=>rfl
         |true=>rw [YB] at e;omega
        have R8:jg t s i=t[i]:=by
         simp only [jg,Xe]
         rw [Xr,hd]
         rfl
        have Rb:rv i=v:=by
         simp only [rv,Xe]
         rw [Array.getD_eq_getD_getElem?,q]
         rfl
        rcases pk hg with ⟨fl,sz,xs,q1,rfl,_,q3,_⟩|⟨i',n,Ru,q1,rfl,_,q3,_⟩
        ·have hr:=TP hj (R8.trans q1) (by rw [Rb,← q1];exact QR.2 i _ v hd q) q3
         rw [Rb] at hr
         exact hr
        ·rcases root j _ size hj with ⟨_,_,_,_,_,_,_,r1,_⟩|⟨i2,n2,TE,b2,cap2,r1,r2,_,_,_,r3,_,r4,_⟩
         ·rw [R8,q1] at r1;cases r1
         ·rw [R8,q1] at r1
          cases r1
          have hr:=TU hj (R8.trans q1) r2 r3 r4
          rw [Rb] at hr
          exact hr
      ·cases SK
     ·split at SK
      ·split at SK
       ·rename_i RZ
        obtain rfl:=Xo SK
        exact ((QR.2 i _ v hd q).cut RZ).mono hle
       ·cases SK
      ·split at SK
       ·rename_i hm
        split at SK
        ·rename_i cs QW
         obtain rfl:=Xo SK
         have QW:t[i]= .agg cs:=QW
         have hc:=Ti cs (List.mem_append_right _ (List.mem_append_right _ (rK (by rw [Xr,hd];exact QW) hm)))
         have hr:=(QR.2 i _ v hd q)
         rw [QW] at hr
         have hb:=hr.oS (by rw [D.clean,D.jW,XZ];exact hc)
         rw [D.bu,D.gy] at hb
         exact hb.mono (MM.lG M')
        ·cases SK
       ·obtain rfl:=Xo SK
        exact .undef v
   ·cases h
  ·cases h
 ·cases h
section
variable {P:Program}
inductive cA (P:Program) (c:Code) (n0:Nat):List D→List Ob→Ex→List D→List Ob→Prop
  |out {t:List D} {s:List Ob} {ex:Ex} {t1 t':List D} {s1 s':List Ob} (sp:HS) (h:lK P c t s ex t1 s1) (hx:ex≠ .norm) (hh:oo sp n0 t1 s1=some (t',s')) (Ti:rJ sp t1 s1):cA P c n0 t s ex t' s'
  |again {t:List D} {s:List Ob} {t1 t2:List D} {s1 s2:List Ob} {ex:Ex} {t':List D} {s':List Ob} (sp:HS) (h:lK P c t s .norm t1 s1) (hh:oo sp n0 t1 s1=some (t2,s2)) (Ti:rJ sp t1 s1) (k:cA P c n0 t2 s2 ex t' s'):cA P c n0 t s ex t' s'
theorem cA.depth {c:Code} {n0:Nat} {t:List D} {s:List Ob} {ex:Ex} {t':List D} {s':List Ob} (h:cA P c n0 t s ex t' s'):n0≤s.length→n0≤s'.length∧
  ∃n,∀(rr:Option Nat) (K:Nat→Prop) (w0:fg) (M:MM) (own:Nat→Option Nat) (w:World) (a:Act) (L:MM),L.Le (M.cut n0)→cJ w0 M own (ca s) w→M.upto s.length→cN M t a.tmps→ie K M a.defers→
   Code.roundsIn (FW rr) 0 P c (fun e a' w'=>ex.is e∧∃M' QK,cJ w0 M' QK (ca s') w'∧M'.upto s'.length∧L.Le M'∧cN M' t' a'.tmps∧ie K M' a'.defers) n a w:=by
 induction h with
 |out sp h hx hh Ti=>
  intro hn
  obtain ⟨hl,hhead⟩:=mO hh Ti
  refine ⟨hl.1,1,fun rr K w0 M own w a L le hw hu ht hd=> ?_⟩
  rw [roundsIn_succ]
  refine wpIn_mono (h.run rr (fun e=>by cases e) K w0 M own w a hw hu ht hd) ?_
  rintro e a' w' ⟨h0,M1,own1,q1,q2,q3,q4,q5⟩
  obtain ⟨M2,R3,r1,r2,r3,r4⟩:=hhead (YG hn h.len) q1 q2 q4
  have fin:∃M' QK,cJ w0 M' QK (ca _) w'∧M'.upto _∧L.Le M'∧cN M' _ a'.tmps∧ie K M' a'.defers:=⟨M2,R3,r1,r2,(le.trans (MM.mj q3 n0)).trans r3,r4,q5.mono r3.fV⟩
  rename_i ex _ _ _ _
  cases ex with
  |norm=>exact absurd rfl hx
  |exit i=>cases e<;>simp only [Ex.is] at h0;exact ⟨h0,fin⟩
  |ret=>cases e<;>simp only [Ex.is] at h0;exact ⟨h0,fin⟩
 |again sp h hh Ti k ih=>
  intro hn
  obtain ⟨hl,hhead⟩:=mO hh Ti
  obtain ⟨i1,n,i2⟩:=ih hl.1
  refine ⟨i1,n+1,fun rr K w0 M own w a L le hw hu ht hd=> ?_⟩
  rw [roundsIn_succ]
  refine wpIn_mono (h.run rr (fun e=>by cases e) K w0 M own w a hw hu ht hd) ?_
  rintro e a' w' ⟨h0,M1,own1,q1,q2,q3,q4,q5⟩
  obtain ⟨M2,R3,r1,r2,r3,r4⟩:=hhead (YG hn h.len) q1 q2 q4
  cases e<;>simp only [Ex.is] at h0
  refine i2 rr K w0 M2 R3 w' a' L ?_ r1 r2 r4 (q5.mono r3.fV)
  have:=MM.mj r3 n0
  rw [MM.wT] at this
  exact (le.trans (MM.mj q3 n0)).trans this
theorem cB.gI {c:Code} {n0:Nat} {t:List D} {s:List Ob} {ex:Ex} {t':List D} {s':List Ob} (hn:n0≤s.length) (h:cA P c n0 t s ex t' s'):cB P n0 (.loop c) t s ex t' s':=by
 obtain ⟨h1,n,h2⟩:=h.depth hn
 exact ⟨fun rr K w0 M own w a hw hu ht hd=>wpIn_loop_rounds n (h2 rr K w0 M own w a (M.cut n0) (.refl _) hw hu ht hd),h1⟩
theorem oB {ρ':Type} {r:ρ'} :∀ {l:List (List D)} {z:Z P} {k:Z P→Option ρ'},Gg l z k=some r→∃z',k z'=some r∧(z'.c→z.c∧∀cs∈l,∀c∈cs,c.clean=true)
 | [],z,k,h=>⟨z,h,fun q=>⟨q,fun _ h=>by simp at h⟩⟩
 |cs::l,z,k,h=>by
  rw [Gg] at h
  split at h
  ·rename_i Ru hc o _
   obtain ⟨z',h1,h2⟩:=oB h
   refine ⟨z',h1,fun q=>⟨(h2 q).1.2,fun x hx=> ?_⟩⟩
   rcases Yx.1 hx with rfl|hx
   ·exact (h2 q).1.1▸hc
   ·exact (h2 q).2 x hx
  ·cases h
theorem bM.CC {rd:Bool} {c:Code} {sp:HS} {t t1:List D} {s s1:List Ob} {ex:Ex} {t2:List D} {s2:List Ob} (h:cB P s.length c t1 s1 ex t2 s2) (hh:oo sp s.length t s=some (t1,s1)) (Ti:rJ sp t s):bM P rd c t s ex t2 s2:=by
 obtain ⟨hl,hhead⟩:=mO hh Ti
 refine ⟨fun rr _ K w0 M own w a hw hu ht hd=> ?_,h.len⟩
 obtain ⟨M2,R3,r1,r2,r3,r4⟩:=hhead (XC _) hw hu ht
 refine wpIn_mono (h.run rr K w0 M2 R3 w a r1 r2 r4 (hd.mono r3.fV)) ?_
 rintro e a' w' ⟨h0,M',QK,q1,q2,q3,q4,q5⟩
 have:=MM.mj r3 s.length
 rw [MM.wT] at this
 exact ⟨h0,M',QK,q1,q2,((MM.M8 hu).trans this).trans q3,q4,q5⟩
inductive lI (P:Program) (rd:Bool) (c:Code):List D→List Ob→Ex→List D→List Ob→Prop
  |out {t:List D} {s:List Ob} {ex:Ex} {t1:List D} {s1:List Ob} (h:bM P rd c t s ex t1 s1) (hx:ex≠ .norm):lI P rd c t s ex t1 s1
  |again {t:List D} {s:List Ob} {t1:List D} {s1:List Ob} {ex:Ex} {t':List D} {s':List Ob} (h:bM P rd c t s .norm t1 s1) (k:lI P rd c t1 s1 ex t' s'):lI P rd c t s ex t' s'
theorem lI.depth {rd:Bool} {c:Code} {t:List D} {s:List Ob} {ex:Ex} {t':List D} {s':List Ob} (h:lI P rd c t s ex t' s'):s.length≤s'.length∧
  ∃n,∀(rr:Option Nat) (_:rd=false→rr=none) (K:Nat→Prop) (w0:fg) (M:MM) (own:Nat→Option Nat) (w:World) (a:Act) (L:MM),L.Le M→cJ w0 M own (ca s) w→M.upto s.length→cN M t a.tmps→ie K M a.defers→
   Code.roundsIn (FW rr) 0 P c (fun e a' w'=>ex.is e∧∃M' QK,cJ w0 M' QK (ca s') w'∧M'.upto s'.length∧L.Le M'∧cN M' t' a'.tmps∧ie K M' a'.defers) n a w:=by
 induction h with
 |out h hx=>
  refine ⟨h.len,1,fun rr SC K w0 M own w a L le hw hu ht hd=> ?_⟩
  rw [roundsIn_succ]
  refine wpIn_mono (h.run rr SC K w0 M own w a hw hu ht hd) ?_
  rintro e a' w' ⟨h0,M1,own1,q1,q2,q3,q4,q5⟩
  have fin:∃M' QK,cJ w0 M' QK (ca _) w'∧M'.upto _∧L.Le M'∧cN M' _ a'.tmps∧ie K M' a'.defers:=⟨M1,own1,q1,q2,le.trans q3,q4,q5⟩
  rename_i ex _ _
  cases ex with
  |norm=>exact absurd rfl hx
  |exit i=>cases e<;>simp only [Ex.is] at h0;exact ⟨h0,fin⟩
  |ret=>cases e<;>simp only [Ex.is] at h0;exact ⟨h0,fin⟩
 |again h k ih=>
  obtain ⟨i1,n,i2⟩:=ih
  refine ⟨YG h.len i1,n+1,fun rr SC K w0 M own w a L le hw hu ht hd=> ?_⟩
  rw [roundsIn_succ]
  refine wpIn_mono (h.run rr SC K w0 M own w a hw hu ht hd) ?_
  rintro e a' w' ⟨h0,M1,own1,q1,q2,q3,q4,q5⟩
  cases e<;>simp only [Ex.is] at h0
  exact i2 rr SC K w0 M1 own1 w' a' L (le.trans q3) q1 q2 q4 q5
theorem bM.gI {rd:Bool} {c:Code} {t:List D} {s:List Ob} {ex:Ex} {t':List D} {s':List Ob} (h:lI P rd c t s ex t' s'):bM P rd (.loop c) t s ex t' s':=by
 obtain ⟨h1,n,h2⟩:=h.depth
 exact ⟨fun rr SC K w0 M own w a hw hu ht hd=>wpIn_loop_rounds n (h2 rr SC K w0 M own w a M (.refl _) hw hu ht hd),h1⟩
theorem yB {rd:Bool} {ρ':Type} {r:ρ'} {c:Code} {body:List D→List Ob→Z P→(Ex→List D→List Ob→Z P→Option ρ')→Option ρ'}
  (hb:∀ {t:List D} {s:List Ob} {z:Z P} {K:Ex→List D→List Ob→Z P→Option ρ'},body t s z K=some r→∃ex t' s' z',K ex t' s' z'=some r∧(z'.c→z.c∧bM P rd c t s ex t' s')):
  ∀ {n:Nat} {t:List D} {s:List Ob} {z:Z P} {K:Ex→List D→List Ob→Z P→Option ρ'},iter body n t s z K=some r→∃ex t' s' z',K ex t' s' z'=some r∧(z'.c→z.c∧lI P rd c t s ex t' s')
 |0,t,s,z,K,h=>by simp [iter] at h
 |n+1,t,s,z,K,h=>by
  rw [iter] at h
  obtain ⟨ex,t1,s1,z1,h1,h2⟩:=hb h
  split at h1
  ·obtain ⟨ex',t2,s2,z2,h3,h4⟩:=yB hb h1
   exact ⟨ex',t2,s2,z2,h3,fun q=>⟨(h2 (h4 q).1).1,.again (h2 (h4 q).1).2 (h4 q).2⟩⟩
  ·rename_i RR
   exact ⟨_,t1,s1,z1,h1,fun q=>⟨(h2 q).1,.out (h2 q).2 RR⟩⟩
end
def C5 (K:Nat→Prop) (w0:fg) (M:MM) (ex:Ex) (t':List D) (s':List Ob):Exit→Act→World→Prop:=
  fun e a' w'=>ex.is e∧∃M' QK,cJ w0 M' QK (ca s') w'∧M'.upto s'.length∧M.Le M'∧cN M' t' a'.tmps∧ie K M' a'.defers
theorem zE {K:Nat→Prop} {w0:fg} {M M1:MM} (le:M.Le M1) {ex:Ex} {t':List D} {s':List Ob} {e:Exit} {a:Act} {w:World} (h:C5 K w0 M1 ex t' s' e a w):C5 K w0 M ex t' s' e a w:=by
 obtain ⟨h0,M',QK,h1,h2,h3,h4,h5⟩:=h
 exact ⟨h0,M',QK,h1,h2,le.trans h3,h4,h5⟩
theorem iE {P:Program} {b:Frame} {a:Act} {k:List Item} {cs:List Frame} {w:World} {c:Code} :step P (lone (b.atR a (.code (.scope c)::k)) cs w)= .next (lone (b.atR a (.code c:: .inScope c::k)) cs w):=
 step_lone_go (by simp [stepG,stepG.exec,Frame.atR])
theorem sI {P:Program} {b:Frame} {a:Act} {k:List Item} {cs:List Frame} {w:World} {c:Code} :step P (lone (b.atR a (.inScope c::k)) cs w)= .next (lone (b.atR a k) cs w):=
 step_lone_go (by simp [stepG,stepG.exec,Frame.atR])
theorem m6 {P:Program} {F:Fence} {n:Nat} {Q:Exit→Act→World→Prop} {a:Act} {w:World} {c:Code} (h:c.wpIn F n P (Exit.noGoto Q) a w):(Code.scope c).wpIn F n P Q a w:=by
 intro b k cs hro hb hr
 have h0:(lone (b.atR a (.code (.scope c)::k)) cs w).fenced P F:=fenced_calm hb hr rfl
 obtain ⟨e,a₁,w₁,hq,Sm⟩:=h b (.inScope c::k) cs hro hb hr
 cases e with
 |normal=>exact ⟨.normal,a₁,w₁,hq,.head h0 iE (StepsIn.trans Sm (.one (fenced_calm hb hr rfl) sI))⟩
 |exit id=>
  have hx:exitTo id (.inScope c::k)=exitTo id k:=by simp [exitTo]
  exact ⟨.exit id,a₁,w₁,hq,fun k' hk=> .head h0 iE (Sm.1 k' (by rw [hx];exact hk)),
   fun Ug hk=>let ⟨k₁,h1,h2⟩:=Sm.2 Ug (by rw [hx];exact hk);⟨k₁,h1,.head h0 iE h2⟩⟩
 |goto l=>exact hq.elim
 |ret=>exact ⟨_,a₁,w₁,hq,.of_steps (.one h0 iE) Sm⟩
 |panic ch=>exact ⟨_,a₁,w₁,hq,.of_steps (.one h0 iE) Sm⟩
 |outgrown=>exact ⟨_,a₁,w₁,hq,.of_steps (.one h0 iE) Sm⟩
section
variable {P:Program} {rd:Bool}
theorem bM.skip (t:List D) (s:List Ob):bM P rd .skip t s .norm t s:=
 ⟨fun _ _ _ _ M own _ _ hw hu ht hd=>wpIn_skip ⟨trivial,M,own,hw,hu,.refl M,ht,hd⟩,XC _⟩
theorem bM.label (l:Nat) (t:List D) (s:List Ob):bM P rd (.label l) t s .norm t s:=
 ⟨fun _ _ _ _ M own _ _ hw hu ht hd=>wpIn_label ⟨trivial,M,own,hw,hu,.refl M,ht,hd⟩,XC _⟩
theorem bM.exit (i:Nat) (t:List D) (s:List Ob):bM P rd (.exit i) t s (.exit i) t s:=
 ⟨fun _ _ _ _ M own _ _ hw hu ht hd=>wpIn_exit ⟨rfl,M,own,hw,hu,.refl M,ht,hd⟩,XC _⟩
theorem bM.Pg (t:List D) (s:List Ob):bM P rd .ret t s .ret t s:=
 ⟨fun _ _ _ _ M own _ _ hw hu ht hd=>wpIn_ret ⟨trivial,M,own,hw,hu,.refl M,ht,hd⟩,XC _⟩
theorem bM.Pd {x y:Code} {t t1 t2:List D} {s s1 s2:List Ob} {ex:Ex} (h:bM P rd x t s .norm t1 s1) (k:bM P rd y t1 s1 ex t2 s2):bM P rd (.seq x y) t s ex t2 s2:=by
 refine ⟨fun rr SC K w0 M own w a hw hu ht hd=>wpIn_seq (wpIn_mono (h.run rr SC K w0 M own w a hw hu ht hd) ?_),YG h.len k.len⟩
 rintro e a' w' ⟨h0,M',QK,h1,h2,h3,h4,h5⟩
 cases e<;>simp only [Ex.is] at h0
 exact wpIn_mono (k.run rr SC K w0 M' QK w' a' h1 h2 h4 h5) fun e a w hh=>zE h3 hh
theorem bM.Pc {x y:Code} {t t1:List D} {s s1:List Ob} {ex:Ex} (h:bM P rd x t s ex t1 s1) (hx:ex≠ .norm):bM P rd (.seq x y) t s ex t1 s1:=by
 refine ⟨fun rr SC K w0 M own w a hw hu ht hd=>wpIn_seq (wpIn_mono (h.run rr SC K w0 M own w a hw hu ht hd) ?_),h.len⟩
 rintro e a' w' ⟨h0,h1⟩
 cases ex with
 |norm=>exact absurd rfl hx
 |exit i=>cases e<;>simp only [Ex.is] at h0;exact ⟨h0,h1⟩
 |ret=>cases e<;>simp only [Ex.is] at h0;exact ⟨h0,h1⟩
theorem bM.cond {c:Operand} {x y:Code} {t t1:List D} {s s1:List Ob} {ex:Ex} {b:Bool} (hb:cU t c= .bool b) (h:bM P rd (if b then x else y) t s ex t1 s1):bM P rd (.cond c x y) t s ex t1 s1:=by
 refine ⟨fun rr SC K w0 M own w a hw hu ht hd=>wpIn_cond (t:=b) ?_ (h.run rr SC K w0 M own w a hw hu ht hd),h.len⟩
 have hr:=nW ht c
 rw [hb] at hr
 generalize hv:a.eval c=v at hr
 cases hr
 rfl
theorem bM.Np {id:Nat} {x:Code} {t t1:List D} {s s1:List Ob} (h:bM P rd x t s (.exit id) t1 s1):bM P rd (.block id x) t s .norm t1 s1:=by
 refine ⟨fun rr SC K w0 M own w a hw hu ht hd=>wpIn_block (wpIn_mono (h.run rr SC K w0 M own w a hw hu ht hd) ?_),h.len⟩
 rintro e a' w' ⟨h0,h1⟩
 cases e<;>simp only [Ex.is] at h0
 subst h0
 simp only [Exit.inBlock,if_true]
 exact ⟨trivial,h1⟩
theorem bM.Ju {id:Nat} {x:Code} {t t1:List D} {s s1:List Ob} {ex:Ex} (h:bM P rd x t s ex t1 s1) (hx:∀i,ex= .exit i→i≠id):bM P rd (.block id x) t s ex t1 s1:=by
 refine ⟨fun rr SC K w0 M own w a hw hu ht hd=>wpIn_block (wpIn_mono (h.run rr SC K w0 M own w a hw hu ht hd) ?_),h.len⟩
 rintro e a' w' ⟨h0,h1⟩
 cases ex with
 |norm=>cases e<;>simp only [Ex.is] at h0;exact ⟨h0,h1⟩
 |exit i=>
  cases e<;>simp only [Ex.is] at h0
  subst h0
  simp only [Exit.inBlock,if_neg (hx _ rfl)]
  exact ⟨rfl,h1⟩
 |ret=>cases e<;>simp only [Ex.is] at h0;exact ⟨h0,h1⟩
theorem bM.scope {x:Code} {t t1:List D} {s s1:List Ob} {ex:Ex} (h:bM P rd x t s ex t1 s1):bM P rd (.scope x) t s ex t1 s1:=by
 refine ⟨fun rr SC K w0 M own w a hw hu ht hd=>m6 (wpIn_mono (h.run rr SC K w0 M own w a hw hu ht hd) ?_),h.len⟩
 rintro e a' w' ⟨h0,h1⟩
 cases ex<;>cases e<;>simp only [Ex.is] at h0<;>exact ⟨h0,h1⟩
theorem bM.text {id:Nat} {ops:Array Oper} {t t1:List D} {s s1:List Ob} {tr:List Tr} (h:Trace P ops ops.toList t s tr t1 s1):bM P rd (.region id ops false) t s .norm t1 s1:=by
 refine ⟨fun rr SC K w0 M own w a hw hu ht hd=>wpIn_region ?_,jZ h⟩
 rw [List.range_eq_range',show ops.size=ops.toList.length by simp]
 exact pF rr h 0 rfl hw hu ht rfl fun M' QK w' a' le up R4 U5 Vw=>⟨trivial,M',QK,R4,up,le,U5,Vw▸hd.mono le.fV⟩
theorem bM.draw {id:Nat} {ops:Array Oper} {t t1:List D} {s s1:List Ob} {tr:List Tr} (hm:P.follows .mixedOrders=true) (h:Trace P ops ops.toList t s tr t1 s1) (hd:nC ops ((tr.map Tr.fp).reverse++ [])=true):bM P rd (.region id ops true) t s .norm t1 s1:=
 ⟨fun rr _ K _ _ _ _ _ hw hu ht Wo=>x6 h hd hm id hw hu ht rfl rr fun M' QK _ _ le up R4 U5 Vw=>⟨trivial,M',QK,R4,up,le,U5,Vw▸Wo.mono le.fV⟩,jZ h⟩
theorem sN {P:Program} {a:Act} {g:Operand} {gf:FuncId} {fv cv:Array Value} {l:Nat} (hf:a.eval g= .func (.func gf) fv cv) (w:World):
  (resolve a.eval (rangeCall g l) 0).run P w= .ok { target:= .fn (.func gf) cv,args:=fv++ #[.func (.yield l) #[] #[]] } w:=by
 have e:a.eval (.const (.func (.yield l) #[] #[]))= .func (.yield l) #[] #[]:=rfl
 simp [rangeCall,resolve,hf,Deferred.ofValue,e]
theorem cN.kH {M:MM} {aV:List Nat} :∀ {t:List D} {vs:Array Value} (i:Nat),cN M t vs→cN M (kH aV i t) vs:=by
 intro t vs i h
 have len:∀(t:List D) (i:Nat),(Go.Ev.kH aV i t).length=t.length:=by
  intro t
  induction t with
  |nil=>intro i;rfl
  |cons d r ih=>intro i;simp [Go.Ev.kH,ih]
 have RQ:∀(t:List D) (i k:Nat) (d:D),(Go.Ev.kH aV i t)[k]? =some d→d= .undef∨t[k]? =some d:=by
  intro t
  induction t with
  |nil=>intro i k d h;simp [Go.Ev.kH] at h
  |cons a r ih=>
   intro i k d h
   cases k with
   |zero=>
    simp only [Go.Ev.kH,Yr,Xv] at h
    split at h
    ·exact .inr (by simp [h])
    ·exact .inl h.symm
   |succ k=>simp only [Go.Ev.kH,Yw] at h;simpa using ih _ _ _ h
 refine ⟨by rw [len];exact h.1,fun k d v p q=> ?_⟩
 rcases RQ t i k d p with rfl|e
 ·exact .undef v
 ·exact h.2 k d v e q
theorem cN.set {M:MM} {t:List D} {vs:Array Value} (h:cN M t vs) {i:Nat} {d:D} {v:Value} (hr:cz M d v):cN M (t.set i d) (vs.setIfInBounds i v):=by
 refine ⟨by simp [h.1],fun k d' v' p q=> ?_⟩
 by_cases e:k=i
 ·subst e
  have QQ:k<t.length:=by
   rcases XL k t.length with x|x
   ·exact x
   ·rw [Xy (by simpa using x)] at p;cases p
  have TX:k<vs.size:=by rw [← h.1];exact QQ
  simp [QQ] at p
  simp [TX] at q
  subst p q
  exact hr
 ·rw [List.getElem?_set_ne (Ne.symm e)] at p
  rw [Array.getElem?_setIfInBounds_ne (Ne.symm e)] at q
  exact h.2 k d' v' p q
theorem cN.lZ {M:MM} :∀ {ps:List Nat} {args:List D} {vs:List Value} {t:List D} {tv:Array Value},cN M t tv→args.length=vs.length→(∀(i:Nat) (d:D) (v:Value),args[i]? =some d→vs[i]? =some v→cz M d v)→
  cN M (lZ t (ps.zip args)) ((ps.zip vs).foldl (fun tmps (x:Nat×Value)=>tmps.setIfInBounds x.1 x.2) tv)
 | [],args,vs,t,tv,h,hl,hr=>by simpa [Go.Ev.lZ] using h
 |p::ps,[],[],t,tv,h,hl,hr=>by simpa [Go.Ev.lZ] using h
 |p::ps,[],v::vs,t,tv,h,hl,hr=>by simp at hl
 |p::ps,d::args,[],t,tv,h,hl,hr=>by simp at hl
 |p::ps,d::args,v::vs,t,tv,h,hl,hr=>by
  simp only [List.zip_cons_cons,Go.Ev.lZ,List.foldl_cons]
  exact cN.lZ (h.set (hr 0 d v rfl rfl)) (by simpa using hl) (fun i d' v' a b=>hr (i+1) d' v' (by simpa using a) (by simpa using b))
theorem bM.range {g:Operand} {ps:Array Tmp} {ag bd:Code} {t:List D} {s:List Ob} {gf:FuncId} {first cap:List D} {aV:List Nat} {d:D} {s2:List Ob} {k:Lk} {t5:List D} {TW:Array Nat} {T2 TN:Code} {ex:Ex}
  (hg:cU t g= .fn (.func gf) first cap) (Q7:ak P gf (first++(.je s.length::cap)) (s++ [.lp .ready (kH aV 0 t) ps ag bd]) d s2) (hk:s2.getD s.length .dead= .lp k t5 TW T2 TN)
  (hex:(k= .ready∧ex= .norm)∨(k= .ret∧ex= .ret)∨∃i,k= .exit i∧ex= .exit i):bM P false (.rangeFunc g ps ag bd) t s ex t (s2.set s.length .dead):=by
 have hlen:=Q7.len
 rw [Xu,List.length_singleton] at hlen
 refine ⟨fun rr SC K w0 M own w a hw hu ht hd=> ?_,by rw [Ym];omega⟩
 obtain rfl:=SC rfl
 have RD:=nW ht g
 rw [hg] at RD
 generalize hfv:a.eval g=fval at RD
 cases RD with
 |fn h1 h2 r1 r2=>
  rename_i fv cv
  refine wpIn_rangeFunc ?_
  intro fn _
  have Uo:=hw.Oe
  obtain ⟨rec,hrec⟩:∃rec:Loop,rec= { state:= .ready,pending:=none,fn,tmps:=a.tmps,params:=ps,assign:=ag,body:=bd,defers:=w.heap.size } :=⟨_,rfl⟩
  have UT:=M.tL w.heap.size
  have SQ:(M.oQ w.heap.size).box s.length=none:=hu.1 _ (XC _)
  have hhs:∀v,(M.oQ w.heap.size).cu s.length v=none:=fun v=>hu.2 _ v (XC _)
  have St:=Uo.Og (k:= .ready) (t:=kH aV 0 t) (r:=rec) SQ hhs (by rw [hrec];rfl) (fun _=>by rw [hrec];rfl) (by rw [hrec];exact (ht.mono UT).kH 0)
  have S4:=MM.iB (b:=(w.alloc (.deferred (some []))).heap.size) SQ
  have QX:(w.alloc (.deferred (some []))).heap.size=w.heap.size+1:=World.size_alloc _ _
  rw [show rec.params=ps by rw [hrec],show rec.assign=ag by rw [hrec],show rec.body=bd by rw [hrec],← oU] at St
  have SY:((M.oQ w.heap.size).eK s.length (w.alloc (.deferred (some []))).heap.size).upto (s++ [Ob.lp .ready (kH aV 0 t) ps ag bd]).length:=by
   rw [Xu,List.length_singleton]
   refine ⟨fun i hi=> ?_,fun i v hi=>hu.2 i v (by omega)⟩
   simp only [MM.eK,if_neg (show ¬i=s.length by omega)]
   exact hu.1 i (by omega)
  have QZ:cN ((M.oQ w.heap.size).eK s.length (w.alloc (.deferred (some []))).heap.size) (first++(.je s.length::cap)) ((fv++ #[.func (.yield (w.heap.size+1)) #[] #[]])++cv):=by
   rw [Array.append_assoc]
   refine cN.append (cN.mono ⟨h1,r1⟩ (UT.trans S4)) ?_
   rw [show (D.je s.length::cap)= [D.je s.length]++cap from rfl]
   refine cN.append ⟨rfl,fun i d v p q=> ?_⟩ (cN.mono ⟨h2,r2⟩ (UT.trans S4))
   cases i with
   |zero=>
    simp at p q
    subst p q
    exact .je (by simp [MM.eK,QX])
   |succ i=>simp at p
  obtain ⟨fnc,code,e1,e2,e3⟩:=Q7.JV
  refine ⟨w.heap.size+1,[{ target:= .collected w.heap.size,args:= #[] }],(w.alloc (.deferred (some []))).alloc (.loop rec),_,_,gf,(fv++ #[.func (.yield (w.heap.size+1)) #[] #[]])++cv,(w.alloc (.deferred (some []))).alloc (.loop rec),?_,sN hfv _,fun _ _=>trivial,?_,fun e=>(by cases e),?_⟩
  ·rw [hrec];exact run_enterLoop_outer _ _ _ _ _
  ·simp only [invoke,callFunc,XK,run_program,Result.andThen_ok,e1,e3,Bool.false_eq_true,if_false,e2,Option.isNone_some,XQ]
  have TZ:CallsIn (FW none) (0 - 1) P gf ((fv++ #[.func (.yield (w.heap.size+1)) #[] #[]])++cv) ((w.alloc (.deferred (some []))).alloc (.loop rec)) _:=(callsIn_wide (n:=0)).2 (Q7.run w0 _ _ _ _ St SY QZ)
  refine TZ.mono ?_
  rintro e w3 ⟨v,M',QK,rfl,q1,q2,q3,q4⟩
  have Ta:M.Le M':=(UT.trans S4).trans q3
  obtain ⟨l,r,q⟩:=q1.lp s.length k t5 TW T2 TN hk
  have V0:M'.box s.length=some (w.heap.size+1):=q3.box _ _ (by simp [MM.eK,QX])
  have el:l=w.heap.size+1:=by have:=q.box;rw [V0] at this;exact (Xo this).symm
  subst el
  have WB:k≠ .busy:=by rcases hex with ⟨rfl,_⟩|⟨rfl,_⟩|⟨i,rfl,_⟩<;>(intro e;cases e)
  have QT:r.state≠ .busy:=by
   rw [q.st]
   rcases hex with ⟨rfl,_⟩|⟨rfl,_⟩|⟨i,rfl,_⟩<;>(intro e;cases e)
  have Va:=q1.G9 (k':= .ready) (r':= { r with state:= .exhausted }) q .dead (.inl rfl)
  have QQ:s.length<s2.length:=by omega
  rw [← lX QQ] at Va
  have hd4:ie K M' ({ target:= .collected w.heap.size,args:= #[] } ::a.defers):=by
   obtain ⟨k0,bs,b1,b2,b3⟩:=hd
   have Rt:∀b,M.fV b→b≠w.heap.size:=fun b hb e=>by
    have:=(hw.fV b hb).2
    rw [e] at this
    simp at this
   refine ⟨fun b hb=>Ta.fV b (k0 b hb),w.heap.size::bs,by rw [b1];rfl,List.nodup_cons.2 ⟨fun hm=>Rt _ (b3 _ hm).1 rfl,b2⟩,?_⟩
   intro b hb
   rcases Yx.1 hb with rfl|hb
   ·exact ⟨q3.fV _ (S4.fV _ (.inr rfl)),fun hK=>Rt _ (k0 _ hK) rfl⟩
   ·exact ⟨Ta.fV b (b3 b hb).1,(b3 b hb).2⟩
  have fin:∃M' QK,cJ w0 M' QK (ca (s2.set s.length .dead)) (cW w3 (w.heap.size+1) (.loop { r with state:= .exhausted }))∧M'.upto (s2.set s.length .dead).length∧M.Le M'∧cN M' t a.tmps∧ie K M' ({ target:= .collected w.heap.size,args:= #[] } ::a.defers):=
   ⟨M',QK,Va,by rw [Ym];exact q2,Ta,ht.mono Ta,hd4⟩
  refine ⟨k.KE,cW w3 (w.heap.size+1) (.loop { r with state:= .exhausted }),?_,?_⟩
  ·rw [← q.pd WB]
   exact run_endLoop (P:=P) q.dZ QT
  ·rcases hex with ⟨rfl,rfl⟩|⟨rfl,rfl⟩|⟨i,rfl,rfl⟩
   ·exact ⟨trivial,fin⟩
   ·exact wpIn_ret ⟨trivial,fin⟩
   ·exact wpIn_exit ⟨rfl,fin⟩
variable {ρ':Type} {r:ρ'}
theorem fO {inl:C7 P ρ'} (Re:lb P inl) (hm:P.follows .mixedOrders=true):∀ {rd:Bool} (c:Code) {t:List D} {s:List Ob} {z:Z P} {K:Ex→List D→List Ob→Z P→Option ρ'},gr P inl rd c t s z K=some r→
  ∃ex t' s' z',K ex t' s' z'=some r∧(z'.c→z.c∧bM P rd c t s ex t' s')
 |rd,.skip,t,s,z,K,h=>⟨_,_,_,z,by simpa only [gr] using h,fun c=>⟨c,.skip t s⟩⟩
 |rd,.label l,t,s,z,K,h=>⟨_,_,_,z,by simpa only [gr] using h,fun c=>⟨c,.label l t s⟩⟩
 |rd,.exit i,t,s,z,K,h=>⟨_,_,_,z,by simpa only [gr] using h,fun c=>⟨c,.exit i t s⟩⟩
 |rd,.ret,t,s,z,K,h=>⟨_,_,_,z,by simpa only [gr] using h,fun c=>⟨c,.Pg t s⟩⟩
 |rd,.scope x,t,s,z,K,h=>by
  rw [gr] at h
  obtain ⟨ex,t',s',z',h1,h2⟩:=fO Re hm x h
  exact ⟨ex,t',s',z',h1,fun c=>⟨(h2 c).1,(h2 c).2.scope⟩⟩
 |rd,.region id ops draw,t,s,z,K,h=>by
  rw [gr] at h
  obtain ⟨tr,t',s',z',h1,h2⟩:=gw Re h
  split at h1
  ·exact ⟨_,_,_,z',h1,fun c=>⟨(h2 c).1,.text (h2 c).2⟩⟩
  ·obtain ⟨hd,h1⟩:=cr h1
   exact ⟨_,_,_,z',h1,fun c=>⟨(h2 c).1,.draw hm (h2 c).2 hd⟩⟩
 |rd,.seq x y,t,s,z,K,h=>by
  rw [gr] at h
  obtain ⟨ex,t1,s1,z1,h1,h2⟩:=fO Re hm x h
  split at h1
  ·obtain ⟨ex',t2,s2,z2,h3,h4⟩:=fO Re hm y h1
   exact ⟨ex',t2,s2,z2,h3,fun c=>⟨(h2 (h4 c).1).1,(h2 (h4 c).1).2.Pd (h4 c).2⟩⟩
  ·rename_i RR
   exact ⟨_,_,_,z1,h1,fun c=>⟨(h2 c).1,(h2 c).2.Pc RR⟩⟩
 |rd,.cond q x y,t,s,z,K,h=>by
  rw [gr] at h
  split at h
  ·rename_i b hb
   obtain ⟨z1,⟨h1,h2⟩|⟨h1,h2⟩⟩:=nE h
   ·obtain ⟨ex,t',s',z',h3,h4⟩:=fO Re hm x h1
    exact ⟨ex,t',s',z',h3,fun c=>⟨(h2 (h4 c).1).1,.cond (b:=true) (by rw [hb,(h2 (h4 c).1).2]) (h4 c).2⟩⟩
   ·obtain ⟨ex,t',s',z',h3,h4⟩:=fO Re hm y h1
    exact ⟨ex,t',s',z',h3,fun c=>⟨(h2 (h4 c).1).1,.cond (b:=false) (by rw [hb,(h2 (h4 c).1).2]) (h4 c).2⟩⟩
  ·cases h
 |rd,.block id x,t,s,z,K,h=>by
  rw [gr] at h
  split at h
  ·rename_i sp n0 c' t1 s1 ex t2 s2 hg rest _
   split at h
   ·rename_i t' s' hh
    obtain ⟨hn,h'⟩:=cr h
    rw [XR] at hn
    subst hn
    obtain ⟨z',h1,h2⟩:=oB h'
    exact ⟨ex,t2,s2,_,h1,fun q=>have k:=(h2 q).1;⟨k.2,.CC (k.1.1▸k.1.2.1▸k.1.2.2▸hg) hh (h2 q).2⟩⟩
   ·cases h
  ·obtain ⟨ex,t1,s1,z1,h1,h2⟩:=fO Re hm x h
   split at h1
   ·rename_i i
    split at h1
    ·rename_i hi
     have hi:i=id:=by simpa using hi
     subst hi
     exact ⟨_,_,_,z1,h1,fun c=>⟨(h2 c).1,(h2 c).2.Np⟩⟩
    ·rename_i hi
     have hi:i≠id:=fun e=>by subst e;simp at hi
     exact ⟨_,_,_,z1,h1,fun c=>⟨(h2 c).1,(h2 c).2.Ju fun j hj=>by cases hj;exact hi⟩⟩
   ·rename_i RR
    exact ⟨_,_,_,z1,h1,fun c=>⟨(h2 c).1,(h2 c).2.Ju fun j hj=>absurd hj (RR j)⟩⟩
 |rd,.loop x,t,s,z,K,h=>by
  rw [gr] at h
  split at h
  ·obtain ⟨ex,t',s',z',h1,h2⟩:=yB (c:=x) (fun h=>fO Re hm x h) h
   exact ⟨ex,t',s',z',h1,fun k=>⟨(h2 k).1,.gI (h2 k).2⟩⟩
  ·rename_i sp n0 c' t1 s1 ex t2 s2 hg rest _
   split at h
   ·rename_i t' s' hh
    obtain ⟨hn,h'⟩:=cr h
    rw [XR] at hn
    subst hn
    obtain ⟨z',h1,h2⟩:=oB h'
    exact ⟨ex,t2,s2,_,h1,fun q=>have k:=(h2 q).1;⟨k.2,.CC (k.1.1▸k.1.2.1▸k.1.2.2▸hg) hh (h2 q).2⟩⟩
   ·cases h
  ·rename_i c' t1 s1 ex t2 s2 hg rest _
   exact ⟨ex,t2,s2,_,h,fun k=>⟨k.2,.any (k.1.1▸k.1.2.1▸k.1.2.2▸hg) _⟩⟩
  ·cases h
 |rd,.rangeFunc g ps ag bd,t,s,z,K,h=>by
  rw [gr] at h
  split at h
  ·split at h
   ·rename_i gf first cap hg
    rw [gJ,oY] at h
    obtain ⟨d,s2,z1,h1,h2⟩:=Re (.fn gf) _ _ _ _ r h
    split at h1
    ·rename_i hk
     rw [iQ] at h1
     exact ⟨_,_,_,z1,h1,fun c=>⟨(h2 c).1,bM.range hg (h2 c).2 hk (.inl ⟨rfl,rfl⟩)⟩⟩
    ·rename_i hk
     rw [iQ] at h1
     exact ⟨_,_,_,z1,h1,fun c=>⟨(h2 c).1,bM.range hg (h2 c).2 hk (.inr (.inl ⟨rfl,rfl⟩))⟩⟩
    ·rename_i hk
     rw [iQ] at h1
     exact ⟨_,_,_,z1,h1,fun c=>⟨(h2 c).1,bM.range hg (h2 c).2 hk (.inr (.inr ⟨_,rfl,rfl⟩))⟩⟩
    ·cases h1
   ·cases h
  ·rename_i c' t1 s1 ex t2 s2 hg rest _
   exact ⟨ex,t2,s2,_,h,fun k=>⟨k.2,.any (k.1.1▸k.1.2.1▸k.1.2.2▸hg) _⟩⟩
  ·cases h
 |rd,.goto l,t,s,z,K,h=>by
  rw [gr] at h
  split at h
  ·rename_i c' t1 s1 ex t2 s2 hg rest _
   exact ⟨ex,t2,s2,_,h,fun k=>⟨k.2,.any (k.1.1▸k.1.2.1▸k.1.2.2▸hg) _⟩⟩
  ·cases h
  all_goals (intros;rename_i q;cases q)
 |rd,.refuse y,t,s,z,K,h=>by
  rw [gr] at h
  split at h
  ·rename_i c' t1 s1 ex t2 s2 hg rest _
   exact ⟨ex,t2,s2,_,h,fun k=>⟨k.2,.any (k.1.1▸k.1.2.1▸k.1.2.2▸hg) _⟩⟩
  ·cases h
  all_goals (intros;rename_i q;cases q)
def DF (tmps:Array Value):ResultVar→Sem Value
  | .tmp t=>pure (tmps.getD t undef)
  | .cell a t=>do loadVar t (← asAddr (tmps.getD a undef))
theorem zS (fn:Func) (tmps:Array Value):results fn tmps=(do
  let vs ← fn.results.mapM (DF tmps)
  pure (if h:vs.size=1 then vs[0] else .tuple vs)):=by
 unfold results
 rfl
theorem zT {w0:fg} {M:MM} {own:Nat→Option Nat} {w:World} {t:List D} {s:List Ob} {tmps:Array Value} (hw:cJ w0 M own (ca s) w) (ht:cN M t tmps) {x:ResultVar} {d:D} (h:vu P t s x=some d):
  ∃v,cz M d v∧(DF tmps x).run P w= .ok v w:=by
 cases x with
 |tmp i=>
  simp only [vu,Xv] at h
  subst h
  exact ⟨_,jV ht i,by simp [DF]⟩
 |cell a ty=>
  simp only [vu] at h
  split at h
  ·rename_i dyn id off hp
   split at h
   ·rename_i cs hb
    have hx:=jV ht a
    rw [hp] at hx
    generalize hv:tmps.getD a undef=v at hx
    cases hx with
    |ptr _ SQ=>
     rename_i b'
     obtain ⟨b,vs,tt,k⟩:=hw.box id cs hb
     rw [k.box] at SQ
     obtain rfl:=Xo SQ
     have SS:∀j c,cs[j]? =some c→w.cell? ⟨b,0+j,none⟩=some (vs.getD j .nilFunc)∧cz M c (vs.getD j .nilFunc):=by
      intro j c hj
      obtain ⟨u,hu,hru⟩:=mF k.len k.rep hj
      rw [Array.getD_eq_getD_getElem?,hu]
      refine ⟨?_,hru⟩
      simp [World.cell?,k.dZ,hu]
     have hp':my P ty cs off d:=by
      split at h
      ·rename_i e he
       split at h
       ·rename_i ha
        split at h
        ·rename_i hk
         simp only [Xp,YB] at hk
         exact ⟨e,he,.inl ⟨ha,hk.2,(Xo h).symm⟩⟩
        ·cases h
       ·rename_i ha
        exact ⟨e,he,.inr ⟨ha,h⟩⟩
      ·cases h
     obtain ⟨u,h1,h2⟩:=j3 hp' (fun j=>vs.getD j .nilFunc) SS
     rw [Yl] at h1
     refine ⟨u,h2,?_⟩
     simp only [DF,hv,asAddr,XK,XQ,Result.andThen_ok,h1]
   ·cases h
  ·cases h
theorem xV {w0:fg} {M:MM} {own:Nat→Option Nat} {w:World} {t:List D} {s:List Ob} {tmps:Array Value} (hw:cJ w0 M own (ca s) w) (ht:cN M t tmps):∀ {l:List ResultVar} {ds:List D},zU P t s l=some ds→
  ∃vs:List Value,ds.length=vs.length∧(∀(i:Nat) (d:D) (v:Value),ds[i]? =some d→vs[i]? =some v→cz M d v)∧Sem.run P (List.mapM (DF tmps) l) w= .ok vs w
 | [],ds,h=>by
  simp only [zU,Xv] at h
  subst h
  exact ⟨[],rfl,fun i d v h=>by simp at h,by simp⟩
 |x::l,ds,h=>by
  simp only [zU] at h
  split at h
  ·rename_i d VP hd hl
   obtain rfl:=Xo h
   obtain ⟨v,h1,h2⟩:=zT hw ht hd
   obtain ⟨vs,k1,k2,k3⟩:=xV hw ht hl
   refine ⟨v::vs,by simp [k1],?_,?_⟩
   ·intro i d' v' a b
    cases i with
    |zero=>simp at a b;subst a b;exact h1
    |succ i=>simp at a b;exact k2 i d' v' a b
   ·rw [List.mapM_cons,XK,h2,Result.andThen_ok,XK,k3,Result.andThen_ok,XQ]
  ·cases h
theorem xU {w0:fg} {M:MM} {own:Nat→Option Nat} {w:World} {t:List D} {s:List Ob} {tmps:Array Value} {fn:Func} (hw:cJ w0 M own (ca s) w) (ht:cN M t tmps) {ds:List D} (h:zU P t s fn.results.toList=some ds):
  ∃v,cz M (zV ds) v∧(results fn tmps).run P w= .ok v w:=by
 obtain ⟨vs,k1,k2,k3⟩:=xV hw ht h
 have e:(results fn tmps).run P w= .ok (if h:vs.length=1 then vs[0] else .tuple vs.toArray) w:=by
  have hr:fn.results=fn.results.toList.toArray:=by simp
  rw [zS,hr,List.mapM_toArray,XK]
  rw [show (List.toArray<$>List.mapM (DF tmps) fn.results.toList:Sem (Array Value)).run P w= .ok vs.toArray w by
   rw [map_eq_pure_bind,XK,k3];simp]
  simp
 refine ⟨_,?_,e⟩
 cases ds with
 |nil=>
  cases vs with
  |nil=>simp only [zV];exact .aQ rfl (fun i d v a=>by simp at a)
  |cons a b=>simp at k1
 |cons d ds=>
  cases ds with
  |nil=>
   cases vs with
   |nil=>simp at k1
   |cons a b=>
    cases b with
    |nil=>simp only [zV];exact k2 0 d a rfl rfl
    |cons b c=>simp at k1
  |cons d2 ds=>
   cases vs with
   |nil=>simp at k1
   |cons a b=>
    cases b with
    |nil=>simp at k1
    |cons b c=>simp only [zV];exact .aQ (by simpa using k1) (fun i d v p q=>k2 i d v p (by simpa using q))
theorem om {fn:Func} {tmps:Array Value} {R:Ending→World→Prop} {w0:fg} {own:Nat→Option Nat} {σ:Nat→Ob} :∀(bs:List Nat) {M:MM} {w:World},cJ w0 M own σ w→bs.Nodup→(∀b∈bs,M.fV b)→
  (∀(f:Nat→Prop) (w2:World),(∀b,M.fV b→b∉bs→f b)→cJ w0 { M with fV:=f } own σ w2→∃v,(results fn tmps).run P w2= .ok v w2∧R (.returned v) w2)→
  LeavesInM Fence.wide 0 P fn tmps R (bs.map fun b=> { target:= .collected b,args:= #[] }) .returning w
 | [],M,w,hw,_,_,h=>h M.fV w (fun _ hb _=>hb) hw
 |b::bs,M,w,hw,hn,hb,h=>by
  obtain ⟨UY,TH⟩:=List.nodup_cons.1 hn
  refine ⟨fun e=>(by cases e),.inl ⟨b,_,rfl,run_takeDeferred (hw.fV b (hb b (by simp))).2,?_⟩⟩
  refine om bs (hw.uU (hb b (by simp))) TH (fun c hc=>⟨hb c (by simp [hc]),fun e=>UY (e▸hc)⟩) fun f w2 hf St=> ?_
  exact h f w2 (fun c hc hm=>hf c ⟨hc,fun e=>hm (by simp [e])⟩ (fun VO=>hm (by simp [VO]))) St
theorem ui {inl:C7 P ρ'} (Re:lb P inl) (hm:P.follows .mixedOrders=true) {f:FuncId} {fn:Func} (hf:P.funcs[f]? =some fn) (hn:(fn.name== "runtime.NumGoroutine")=false)
  {args:List D} {s:List Ob} {z:Z P} {K:D→List Ob→Z P→Option ρ'} (h:uj P inl fn args s z K=some r):∃d s' z',K d s' z'=some r∧(z'.c→z.c∧ak P f args s d s'):=by
 unfold uj at h
 split at h
 ·rename_i c hc
  obtain ⟨hle,h⟩:=cr h
  rw [gJ] at h
  obtain ⟨ex,t',s',z',h1,h2⟩:=fO (rd:=false) Re hm c h
  have main:∀ {l},zU P t' s' fn.results.toList=some l→(∀i,ex≠ .exit i)→bM P false c (args++List.replicate (fn.ntmps - args.length) .undef) s ex t' s'→ak P f args s (zV l) s':=by
   intro l hl hex Q7
   refine ⟨⟨fn,c,hf,hc,hn⟩,Q7.len,?_⟩
   intro w0 M own w vs hw hu ha
   refine (callsIn_wide (n:=0)).1 (callsIn_of_wp_marks hf hc trivial (wpIn_mono (Q7.run none (fun _=>rfl) M.fV w0 M own w _ hw hu ?_ ⟨fun _ h=>h,[],rfl,List.nodup_nil,fun b hb=>by cases hb⟩) ?_))
   ·refine ha.append ⟨by simp [ha.1],fun i d v p q=> ?_⟩
    rw [List.getElem?_replicate] at p
    split at p
    ·obtain rfl:=Xo p;exact .undef v
    ·cases p
   ·rintro e a' w' ⟨h0,M',QK,q1,q2,q3,q4,_,bs,b1,b2,b3⟩
    have fin:LeavesInM Fence.wide 0 P fn a'.tmps (fun e w'=> ∃v M' QK,e= .returned v∧cJ w0 M' QK (ca s') w'∧M'.upto s'.length∧M.Le M'∧cz M' (zV l) v) a'.defers .returning w':=by
     rw [b1]
     refine om bs q1 b2 (fun b hb=>(b3 b hb).1) fun f w2 Ut St=> ?_
     have q4':cN { M' with fV:=f } t' a'.tmps:=⟨q4.1,fun i d v p q=>(q4.2 i d v p q).Od⟩
     obtain ⟨v,r1,r2⟩:=xU St q4' hl
     exact ⟨v,r2,v,_,QK,rfl,St,⟨q2.1,q2.2⟩,⟨q3.cell,q3.box,q3.cu,fun b hb=>Ut b (q3.fV b hb) (fun hm=>(b3 b hm).2 hb)⟩,r1⟩
    cases ex with
    |exit i=>exact absurd rfl (hex i)
    |norm=>cases e<;>simp only [Ex.is] at h0;exact fin
    |ret=>cases e<;>simp only [Ex.is] at h0;exact fin
  split at h1
  ·cases h1
  ·rename_i hex
   split at h1
   ·rename_i l hl
    exact ⟨_,_,z',h1,fun c=>⟨(h2 c).1,main hl (fun i hi=>hex i hi) (h2 c).2⟩⟩
   ·cases h1
 ·cases h
theorem zF {inl:C7 P ρ'} (Re:lb P inl) (hm:P.follows .mixedOrders=true) {id:Nat} {args:List D} {s:List Ob} {z:Z P} {K:D→List Ob→Z P→Option ρ'} (h:zG P inl id args s z K=some r):
  ∃d s' z',K d s' z'=some r∧(z'.c→z.c∧xh P id args s d s'):=by
 unfold zG at h
 split at h
 ·rename_i t ps ag bd hs
  obtain ⟨hle,h⟩:=cr h
  rw [XR] at hle
  rw [gJ] at h
  obtain ⟨ex,t2,s2,z1,h1,h2⟩:=fO (rd:=true) Re hm ag h
  split at h1
  ·split at h1
   ·rename_i t' V1 VJ VI Vl
    rw [iQ] at h1
    obtain ⟨ex2,t4,s4,z2,h3,h4⟩:=fO (rd:=true) Re hm bd h1
    split at h3
    ·rename_i t5 TW T2 TN W2
     have main:∀(k:Lk) (j:Option Code),((ex2= .norm∧k= .ready∧j=none)∨(ex2= .ret∧k= .ret∧j=some .ret)∨∃i,ex2= .exit i∧k= .exit i∧j=some (.exit i))→
       bM P true ag (lZ t (ps.toList.zip args)) s .norm t2 s2→bM P true bd t2 (s2.set id (.lp .busy t' V1 VJ VI)) ex2 t4 s4→xh P id args s (.bool j.isNone) (s4.set id (.lp k t5 TW T2 TN)):=by
      intro k j Wy Up Tw
      have TA:=Tw.len
      rw [Ym] at TA
      refine ⟨by rw [Ym];exact YG Up.len TA,?_⟩
      intro w0 M own w vs l hw hu ha hb
      obtain ⟨l',rc,q⟩:=hw.lp id _ _ _ _ _ hs
      obtain rfl:l'=l:=by have:=q.box;rw [hb] at this;exact (Xo this).symm
      have QX:vs.size=rc.params.size:=by rw [← ha.1,hle,q.ps]
      refine ⟨_,_,_,_,run_yield q.dZ QX,?_⟩
      have htm:cN M (lZ t (ps.toList.zip args)) ((rc.params.zip vs).foldl (fun tmps (x:Nat×Value)=>tmps.setIfInBounds x.1 x.2) rc.tmps):=by
       have:=cN.lZ (ps:=ps.toList) (args:=args) (vs:=vs.toList) q.tm (by rw [ha.1];simp) (fun i d v p u=>ha.2 i d v p (by simpa using u))
       rw [q.ps,← Array.foldl_toList,Array.toList_zip]
       exact this
      refine roundIn_of_wpIn (F:=Fence.wide) (n:=0) trivial ?_
      rw [q.ag,q.bd]
      refine wpIn_mono (Up.run (some l') (fun e=>by cases e) M.fV w0 M own w _ hw hu htm ⟨fun _ h=>h,[],rfl,List.nodup_nil,fun b hb=>by cases hb⟩) ?_
      rintro e a1 w1 ⟨h0,M1,own1,q1,q2,q3,q4,q5⟩
      cases e<;>simp only [Ex.is] at h0
      obtain ⟨l1,rc1,p1⟩:=q1.lp id _ _ _ _ _ Vl
      obtain rfl:l1=l':=by have:=p1.box;rw [q3.box _ _ hb] at this;exact (Xo this).symm
      have TX:=hE (s:=s2) (i:=id) (by rw [Vl];simp)
      have St:=q1.G9 (k':= .busy) (r':= { rc1 with state:= .busy }) p1 (.lp .busy t' V1 VJ VI) (.inr ⟨rfl,rfl,fun e=>absurd rfl e,rfl,rfl,rfl,rfl⟩)
      rw [← lX TX] at St
      refine ⟨_,run_beginRound p1.dZ p1.st,?_⟩
      refine wpIn_mono (Tw.run (some l1) (fun e=>by cases e) M.fV w0 M1 own1 _ a1 St (by rw [Ym];exact q2) q4 q5) ?_
      rintro e2 a2 w3 ⟨U0,M2,R3,u1,u2,u3,u4,u5⟩
      obtain ⟨l2,rc2,p2⟩:=u1.lp id _ _ _ _ _ W2
      obtain rfl:l2=l1:=by have:=p2.box;rw [u3.box _ _ (q3.box _ _ hb)] at this;exact (Xo this).symm
      have WC:=hE (s:=s4) (i:=id) (by rw [W2];simp)
      have Va:=u1.G9 (k':=k) (r':= { rc2 with state:=if j.isNone then .ready else .done,pending:=j }) p2 (.lp k t5 TW T2 TN) (.inr ⟨rfl,by
       rcases Wy with ⟨_,rfl,rfl⟩|⟨_,rfl,rfl⟩|⟨i,_,rfl,rfl⟩<;>rfl,fun _=>by
       rcases Wy with ⟨_,rfl,rfl⟩|⟨_,rfl,rfl⟩|⟨i,_,rfl,rfl⟩<;>rfl,rfl,rfl,rfl,rfl⟩)
      rw [← lX WC] at Va
      have fin:∃v w',(Instr.endRound l2 j).run P w3= .ok v w'∧∃v' M' QK,Ending.returned v= .returned v'∧cJ w0 M' QK (ca (s4.set id (.lp k t5 TW T2 TN))) w'∧M'.upto (s4.set id (.lp k t5 TW T2 TN)).length∧M.Le M'∧cz M' (.bool j.isNone) v':=
       ⟨_,_,run_endRound j p2.dZ,_,M2,R3,rfl,Va,by rw [Ym];exact u2,q3.trans u3,.bool _⟩
      rcases Wy with ⟨rfl,rfl,rfl⟩|⟨rfl,rfl,rfl⟩|⟨i,rfl,rfl,rfl⟩
      ·cases e2<;>simp only [Ex.is] at U0
       exact fin
      ·cases e2<;>simp only [Ex.is] at U0
       exact fin
      ·cases e2<;>simp only [Ex.is] at U0
       subst U0
       exact fin
     split at h3
     ·rw [iQ] at h3
      exact ⟨_,_,z2,h3,fun c=>⟨(h2 (h4 c).1).1,main .ready none (.inl ⟨rfl,rfl,rfl⟩) (h2 (h4 c).1).2 (h4 c).2⟩⟩
     ·rw [iQ] at h3
      exact ⟨_,_,z2,h3,fun c=>⟨(h2 (h4 c).1).1,main .ret (some .ret) (.inr (.inl ⟨rfl,rfl,rfl⟩)) (h2 (h4 c).1).2 (h4 c).2⟩⟩
     ·rename_i i
      rw [iQ] at h3
      exact ⟨_,_,z2,h3,fun c=>⟨(h2 (h4 c).1).1,main (.exit i) (some (.exit i)) (.inr (.inr ⟨i,rfl,rfl,rfl⟩)) (h2 (h4 c).1).2 (h4 c).2⟩⟩
    ·cases h3
   ·cases h1
  ·cases h1
 ·cases h
theorem jq (hm:P.follows .mixedOrders=true):∀n:Nat,lb P (rH (ρ:=ρ') P n)
 |0=>fun g args s z K r h=>by simp [rH] at h
 |n+1=>fun g args s z K r h=>by
  rw [rH] at h
  simp only [] at h
  cases g with
  |fn f=>
   simp only [] at h
   split at h
   ·rename_i fn hf
    obtain ⟨hn,h⟩:=cr h
    exact ui (jq hm n) hm hf (by simpa using hn) h
   ·cases h
  |yl id=>
   simp only [] at h
   exact zF (jq hm n) hm h
end
section
variable {P:Program}
theorem pE {M:MM} {s:List Ob} {d:D} {v:Value} (h:cz M d v) (hc:d.clean=true):cz (gn M.cell) (kC s d) v:=by
 unfold kC
 split
 ·rename_i id ver sz xs
  have h1:=h.oS hc
  have:∀o:kp,(o= .no∨∃k,o= .fresh k)→cz (gn M.cell) (.bc o sz xs) v:=by
   intro o ho
   cases h1 with
   |bc b off vs hl QP ha QX Rp hr QT _=>exact .bc b off vs hl QP ha QX Rp hr QT (by rcases ho with rfl|⟨k,rfl⟩<;>trivial)
  split
  ·split
   ·exact this _ (.inr ⟨_,rfl⟩)
   ·exact this _ (.inl rfl)
  ·exact this _ (.inl rfl)
 ·exact h.oS hc
theorem wQ {d:D} {sz Ra:Nat} {xs:List D} :d.bu≠ .bc (.fresh sz) Ra xs:=by
 intro h
 cases d<;>simp only [D.bu,reduceCtorEq] at h
 case bc o _ _=>cases o<;>simp [kp.bu] at h
theorem nk {w0:fg} (hX:∀b,¬w0.X b→w0.w.heap.size≤b) {M:MM} {own:Nat→Option Nat} {w:World} {s:List Ob} (hw:cJ w0 M own (ca s) w) {d:D} {v:Value} (h:cz M d v) {sz Ra:Nat} {xs:List D} (e:kC s d= .bc (.fresh sz) Ra xs):
  ∃a len cap,v= .slice a len cap∧Ra=sz∧jY w0.w.heap.size w M.cell sz a len cap:=by
 unfold kC at e
 split at e
 ·rename_i id ver WQ WS
  split at e
  ·rename_i v' RX hs
   split at e
   ·rename_i hb
    simp only [Xp,XR] at hb
    obtain ⟨rfl,rfl⟩:=hb
    simp only [D.bc.injEq,kp.fresh.injEq] at e
    obtain ⟨rfl,rfl,rfl⟩:=e
    obtain ⟨a,len,cap,k⟩:=hw.cM id ver WQ hs
    cases h with
    |bc b off vs hl QP ha QX Rp hr QT ho=>
     have:M.cu id ver=some _:=ho
     rw [k.cu] at this
     obtain ⟨rfl,rfl,rfl⟩:=Value.slice.inj (Xo this)
     refine ⟨_,_,_,rfl,rfl,?_⟩
     rcases k.room with q|⟨b,vs,ty,fz,q,r⟩
     ·exact .inl q
     ·exact .inr ⟨b,vs,ty,fz,q,hX _ r.base,r.dZ,r.fz,r.cap,r.none⟩
   ·cases e
  ·cases e
 ·exact absurd e wQ
theorem Hs {w0:fg} (hX:∀b,¬w0.X b→w0.w.heap.size≤b) {M:MM} {own:Nat→Option Nat} {w:World} {s:List Ob} (hw:cJ w0 M own (ca s) w) {d:D} {v:Value} (h:cz M d v) (hc:d.clean=true):cz (gn M.cell) (Eo s d) v∧B5 w0.w.heap.size w M.cell (Eo s d) v:=by
 by_cases ht:∃ds,d= .aQ ds
 ·obtain ⟨ds,rfl⟩:=ht
  cases h with
  |aQ hl r=>
   rename_i vs
   rw [D.clean,D.jW,XZ] at hc
   refine ⟨.aQ (by simpa using hl) ?_,?_,?_⟩
   ·intro i d v a b
    rw [XH,XF] at a
    obtain ⟨d0,h0,rfl⟩:=a
    exact pE (r i d0 v h0 b) (hc _ (XP h0))
   ·intro sz Ra xs e;simp [Eo] at e
   ·intro VP vs' e1 e2 i sz Ra xs hi
    simp only [Eo,D.aQ.injEq] at e1
    obtain rfl:=Value.tuple.inj e2
    subst e1
    rw [XH,XF] at hi
    obtain ⟨d0,h0,e⟩:=hi
    have QQ:i<vs.size:=by
     rw [← hl]
     rcases XL i ds.length with q|q
     ·exact q
     ·rw [Xy q] at h0;cases h0
    obtain ⟨a,len,cap,k1,k2,k3⟩:=nk hX hw (r i d0 vs[i] h0 (by simp [QQ])) e
    exact ⟨a,len,cap,by simp [QQ,k1],k2,k3⟩
 ·have e:Eo s d=kC s d:=by
   cases d<;>first|rfl|exact absurd ⟨_,rfl⟩ ht
  rw [e]
  refine ⟨pE h hc,fun sz Ra xs q=>nk hX hw h q,fun ds vs q=> ?_⟩
  exfalso
  unfold kC at q
  split at q
  ·split at q
   ·split at q<;>cases q
   ·cases q
  ·cases d<;>simp only [D.bu,reduceCtorEq] at q
   exact ht ⟨_,rfl⟩
theorem aY.ai (hm:P.follows .mixedOrders=true) {f:FuncId} {fn:Func} (hf:P.funcs[f]? =some fn) (hn:(fn.name== "runtime.NumGoroutine")=false) {args:List D} {d:D} (o:List (Ev P))
  (h:wM P fn args o=some (d,qQ o True):=by kernel_rfl):aY P f args d:=by
 unfold wM at h
 obtain ⟨d0,s',z',h1,h2⟩:=ui (jq hm 20) hm hf hn h
 obtain ⟨hc,h1⟩:=cr h1
 split at h1
 ·simp only [Xv,Yv] at h1
  obtain ⟨rfl,hz⟩:=h1
  have Q7:=(h2 (by rw [hz];exact lh o trivial)).2
  refine ⟨Q7.JV,fun w C vs hC ha=>Calls.mono (Q7.run ⟨w,C,fun k=>k<w.heap.size⟩ (gn C) (fun _=>none) w vs ?_ ⟨fun _ _=>rfl,fun _ _ _=>rfl⟩ ha) ?_⟩
  ·refine ⟨.of _,hC,?_,?_,?_,?_,?_,?_,fun b hb=>hb.elim⟩
   ·intro b o v k _;exact k
   ·intro b i k;cases k
   ·intro i cs k;simp [ca] at k
   ·intro i v sz k;simp [ca] at k
   ·intro i F q;simp [ca,Ob.Fe] at q
   ·intro i k t ps ag bd q;simp [ca] at q
  ·rintro e w' ⟨v,M',QK,rfl,q1,q2,q3,q4⟩
   obtain ⟨r1,r2⟩:=Hs (fun _ h=>Nat.le_of_not_lt h) q1 q4 hc
   exact ⟨v,M'.cell,rfl,⟨q1.below.below,q3.cell,q1.ng,q1.cells⟩,r1,r2⟩
 ·cases h1
theorem aY.cast {f:FuncId} {args Uq:List D} {d d':D} (h:aY P f args d) (ha:args=Uq) (hd:d=d'):aY P f Uq d':=ha▸hd▸h
theorem lK.ai (hm:P.follows .mixedOrders=true) {c:Code} {t:List D} {s:List Ob} {ex:Ex} {t':List D} {s':List Ob} (o:List (Ev P))
  (h:evalCode P c t s o=some ((ex,t',s'),qQ o True)):lK P c t s ex t' s':=by
 unfold evalCode at h
 obtain ⟨VS,t1,s1,z',h1,h2⟩:=fO (rd:=true) (jq hm 20) hm c h
 split at h1
 ·simp only [Xv,Yv] at h1
  obtain ⟨⟨rfl,rfl,rfl⟩,hz⟩:=h1
  exact (h2 (by rw [hz];exact lh o trivial)).2
 ·cases h1
structure aJ (P:Program) (c:Code) (sp:HS) (n0:Nat) (t:List D) (s:List Ob) (ex:Ex) (t':List D) (s':List Ob):Prop where
  run:∃t1 s1,lK P c t s ex t1 s1∧oo sp n0 t1 s1=some (t',s')∧rJ sp t1 s1
theorem aJ.ai (hm:P.follows .mixedOrders=true) {c:Code} {sp:HS} {n0:Nat} {t:List D} {s:List Ob} {ex:Ex} {t':List D} {s':List Ob} (o:List (Ev P))
  (h:ue P c sp n0 t s o=some ((ex,t',s'),qQ o True):=by kernel_rfl):aJ P c sp n0 t s ex t' s':=by
 unfold ue at h
 obtain ⟨VS,t1,s1,z',h1,h2⟩:=fO (rd:=true) (jq hm 20) hm c h
 split at h1
 ·rename_i t2 s2 hh
  obtain ⟨z2,h3,h4⟩:=oB h1
  split at h3
  ·simp only [Xv,Yv] at h3
   obtain ⟨⟨rfl,rfl,rfl⟩,hz⟩:=h3
   have Uu:=h4 (by rw [hz];exact lh o trivial)
   exact ⟨t1,s1,(h2 Uu.1).2,hh,Uu.2⟩
  ·cases h3
 ·cases h1
theorem aJ.piece {c:Code} {sp:HS} {n0:Nat} {t t':List D} {s s':List Ob} {ex:Ex} (hn:n0≤s.length) (h:aJ P c sp n0 t s ex t' s'):cB P n0 c t s ex t' s':=by
 obtain ⟨t1,s1,h1,h2,h3⟩:=h.run
 obtain ⟨hl,hhead⟩:=mO h2 h3
 refine ⟨fun rr K w0 M own w a hw hu ht hd=> ?_,hl.1⟩
 refine wpIn_mono (h1.run rr (fun e=>by cases e) K w0 M own w a hw hu ht hd) ?_
 rintro e a' w' ⟨h0,M1,own1,q1,q2,q3,q4,q5⟩
 obtain ⟨M2,R3,r1,r2,r3,r4⟩:=hhead (YG hn h1.len) q1 q2 q4
 exact ⟨h0,M2,R3,r1,r2,(MM.mj q3 n0).trans r3,r4,q5.mono r3.fV⟩
theorem cA.ic {c:Code} {sp:HS} {n0:Nat} {t t2:List D} {s s2:List Ob} {ex:Ex} {t':List D} {s':List Ob} (h:aJ P c sp n0 t s .norm t2 s2) (k:cA P c n0 t2 s2 ex t' s'):cA P c n0 t s ex t' s':=
 let ⟨_,_,h1,h2,h3⟩:=h.run
 .again sp h1 h2 h3 k
theorem cA.last {c:Code} {sp:HS} {n0:Nat} {t:List D} {s:List Ob} {ex:Ex} {t':List D} {s':List Ob} (h:aJ P c sp n0 t s ex t' s') (hx:ex≠ .norm):cA P c n0 t s ex t' s':=
 let ⟨_,_,h1,h2,h3⟩:=h.run
 .out sp h1 hx h2 h3
def pV (aV:List Nat):Nat→List Ob→List Ob
  |_,[]=> []
  |i,o::r=>(match jG i aV with|true=>o|false=> .dead)::pV aV (i+1) r
def yW (P:Program) (g:FuncId) (args:List D) (s:List Ob) (aV:List Nat) (o:List (Ev P)):Option ((D×List Ob)×Prop):=
  rH P 20 (.fn g) args s ⟨o,True⟩ fun d s' z=>match z.o with| []=>some ((d,pV aV 0 s'),z.c)|_=>none
theorem pz (aV:List Nat):∀(s:List Ob) (i:Nat),(pV aV i s).length=s.length
 | [],_=>rfl
 |o::r,i=>by simp [pV,pz aV r]
theorem yZ (aV:List Nat):∀(s:List Ob) (i k:Nat),(pV aV i s).getD k .dead=s.getD k .dead∨(pV aV i s).getD k .dead= .dead
 | [],_,_=> .inl rfl
 |o::r,i,0=>by
  simp only [pV,List.getD_cons_zero]
  split
  ·exact .inl rfl
  ·exact .inr rfl
 |o::r,i,k+1=>by simp only [pV,List.getD_cons_succ];exact yZ aV r (i+1) k
theorem cJ.sub {w0:fg} {M:MM} {own:Nat→Option Nat} {σ σ':Nat→Ob} {w:World} (h:cJ w0 M own σ w) (hs:∀i,σ' i=σ i∨σ' i= .dead):cJ w0 M own σ' w:=by
 have RQ:∀ {i:Nat} {o:Ob},σ' i=o→o≠ .dead→σ i=o:=fun {i o} e hn=>by
  rcases hs i with q|q
  ·rw [← q];exact e
  ·exact absurd (e▸q:o= .dead) hn
 exact ⟨h.below,h.cells,h.ng,h.owned,fun i cs e=>h.box i cs (RQ e (by simp)),fun i v sz e=>h.cM i v sz (RQ e (by simp)),(fun i F e=>(hs i).elim (fun q=>h.mp i F (by rw [← q];exact e)) (fun q=>by rw [q] at e;cases e)),
  fun i k t ps ag bd e=>h.lp i k t ps ag bd (RQ e (by simp)),h.fV⟩
theorem ak.ai (hm:P.follows .mixedOrders=true) {g:FuncId} {args:List D} {s:List Ob} {d:D} {s':List Ob} {aV:List Nat} (o:List (Ev P))
  (h:yW P g args s aV o=some ((d,s'),qQ o True):=by kernel_rfl):ak P g args s d s':=by
 unfold yW at h
 obtain ⟨d1,s1,z',h1,h2⟩:=jq hm 20 (.fn g) args s _ _ _ h
 split at h1
 ·simp only [Xv,Yv] at h1
  obtain ⟨⟨rfl,rfl⟩,hz⟩:=h1
  have Q7:ak P g args s d1 s1:=(h2 (by rw [hz];exact lh o trivial)).2
  refine ⟨Q7.JV,by rw [pz];exact Q7.len,fun w0 M own w vs hw hu ha=>Calls.mono (Q7.run w0 M own w vs hw hu ha) ?_⟩
  rintro e w' ⟨v,M',QK,rfl,q1,q2,q3,q4⟩
  exact ⟨v,M',QK,rfl,q1.sub (fun i=>yZ aV s1 0 i),by rw [pz];exact q2,q3,q4⟩
 ·cases h1
theorem ak.cast {g:FuncId} {args:List D} {s:List Ob} {d d':D} {s1 s2:List Ob} (h:ak P g args s d s1) (h1:d=d') (h2:s1=s2):ak P g args s d' s2:=h1▸h2▸h
end
variable {P:Program}
def Ot (s:List Ob) (id sz n:Nat):Option D:=match s.getD id .dead with
  | .box cs=>match Nat.beq cs.length (n*sz)&&cs.all D.clean&&cs.all (fun c=>storable c.bu) with
    |true=>some (.bc .no sz (rows sz n (cs.map D.bu)))
    |false=>none
  |_=>none
def Ow (P:Program) (fn:Func) (args:List D) (o:List (Ev P)):Option (D×Prop):=
  uj P (rH P 20) fn args [] ⟨o,True⟩ fun d s z=>match d with
    | .aQ (.ez id sz n::r)=>match Ot s id sz n with
      |some x=>jA (r.all D.clean) (match z.o with| []=>some (.aQ (x::r.map D.bu),z.c)|_=>none)
      |none=>none
    |_=>none
def Ov (P:Program) (fn:Func) (args:List D) (o:List (Ev P)):Option ((D×List Ob)×Prop):=
  uj P (rH P 20) fn args [] ⟨o,True⟩ fun d s z=>match z.o with| []=>some ((d,s),z.c)|_=>none
def Qs (s:List Ob) (d:D):Option D:=match d with
  | .aQ (.ez id sz n::r)=>match Ot s id sz n with
    |some x=>some (.aQ (x::r.map D.bu))
    |none=>none
  |_=>none
end Go.Ev
