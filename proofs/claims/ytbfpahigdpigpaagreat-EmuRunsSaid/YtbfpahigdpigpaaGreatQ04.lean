import Derived.LoopN
import Derived.LoopNIn
import Derived.Scope
import Derived.RangeFuncRecord
import Derived.Test.YtbfpahigdpigpaaGreatQ02
import Derived.Test.YtbfpahigdpigpaaGreatQ03
open Option.some renaming inj→aad,injEq→aak
open Bool renaming and_eq_true→aae,or_eq_true→aax,not_eq_true'→aaK
open List renaming getD_eq_getElem?_getD→aaf,getElem?_eq_none→aam,length_append→aap,getElem?_map→aau,mem_of_getElem? →aaD,all_eq_true→aaO,length_set→aa1,getElem?_cons_zero→abb,getElem?_cons_succ→abf,mem_cons→abj,length_singleton→abl
open Nat renaming le_refl→aar,lt_or_ge→aaA,beq_eq→aaG,zero_add→aaY,ble_eq→abh,ble→abq,le_trans→abu
open Option renaming map_eq_some_iff→aat,bind_some→abx
open Go.Sem renaming run_bind→aay,run_pure→aaH
open Prod.mk renaming injEq→abe
/- Contracts and plain laws that a statement's proof leans on (texts merged:EvQ,EvP). -/
set_option linter.unusedVariables false
set_option linter.unusedSimpArgs false
namespace Go.Ev
open Go Go.RowKit
theorem lh {i:Nat} :∀ {l:List Nat},jy i l=true↔i∈l
 | []=>by simp [jy]
 |a::r=>by
  unfold jy
  split
  ·rename_i h;rw [aaG] at h;subst h;simp
  ·rename_i h
   rw [lh]
   have:a≠i:=fun e=>by subst e;simp at h
   simp [Ne.symm this]
theorem MM.mO {M M':MM} (h:M.Le M') (n:Nat):(M.cut n).Le (M'.cut n):=by
 refine ⟨h.cell,fun i b k=> ?_,fun i v b k=> ?_,h.fM⟩
 ·simp only [MM.cut] at k ⊢
  split at k
  ·rename_i q;rw [if_pos q];exact h.box _ _ k
  ·cases k
 ·simp only [MM.cut] at k ⊢
  split at k
  ·rename_i q;rw [if_pos q];exact h.bX _ _ _ k
  ·cases k
theorem MM.lR {M:MM} {n:Nat} :((M.cut n).cut n)=M.cut n:=by
 unfold MM.cut
 congr 1
 ·funext i;by_cases h:i<n<;>simp [h]
 ·funext i v;by_cases h:i<n<;>simp [h]
theorem MM.Pq {M:MM} {n:Nat} (h:M.upto n):M.Le (M.cut n):=by
 refine ⟨fun _ _ _ h=>h,fun i b k=> ?_,fun i v b k=> ?_,fun _ h=>h⟩
 ·simp only [MM.cut]
  split
  ·exact k
  ·rw [h.1 i (by omega)] at k;cases k
 ·simp only [MM.cut]
  split
  ·exact k
  ·rw [h.2 i v (by omega)] at k;cases k
theorem j6 (n:Nat):∀l:List D,mc n l=l.all (nS n)
 | []=>by simp [mc]
 |d::r=>by simp [mc,j6 n r]
theorem b7.cut {M:MM} {d:D} {v:Value} (h:b7 M d v):∀ {n:Nat},nS n d=true→b7 (M.cut n) d v:=by
 induction h with
 |undef v=>exact fun _=> .undef v
 |int k n=>exact fun _=> .int k n
 |bool b=>exact fun _=> .bool b
 |str s=>exact fun _=> .str s
 |fW=>exact fun _=> .fW
 |ptr q h=>intro n c;simp only [nS,Nat.blt_eq] at c;exact .ptr q (by simp only [MM.cut,c,if_true];exact h)
 |eL q vs hx hc hr ih=>intro n c;exact .eL q vs hx hc hr
 |gl h=>intro n c;simp only [nS,Nat.blt_eq] at c;exact .gl (by simp only [MM.cut,c,if_true];exact h)
 |jx h=>intro n c;simp only [nS,Nat.blt_eq] at c;exact .jx (by simp only [MM.cut,c,if_true];exact h)
 |dm h hh hc=>intro n c;simp only [nS,Nat.blt_eq] at c;exact .dm (by simp only [MM.cut,c,if_true];exact h) (by simp only [MM.cut,c,if_true];exact hh) hc
 |sub h hc hp ho=>intro n c;simp only [nS,Nat.blt_eq] at c;exact .sub (by simp only [MM.cut,c,if_true];exact h) hc hp ho
 |aY b off vs hl TZ ha T8 hc hr T5 ho ih=>
  intro n c
  refine .aY b off vs hl TZ ha T8 hc hr T5 ?_
  rename_i M o _ _ _ _ _
  cases o with
  |tok t v=>simp only [nS,Nat.blt_eq] at c;simp only [MM.pR,MM.cut,c,if_true];exact ho
  |no=>trivial
  |fresh k=>trivial
  |tight=>exact ho
 |b6=>exact fun _=> .b6
 |fn h1 h2 r1 r2 i1 i2=>
  intro n c
  rw [nS,j6,j6,aae,aaO,aaO] at c
  exact .fn h1 h2 (fun i d v a b=>i1 i d v a b (c.1 _ (aaD a))) (fun i d v a b=>i2 i d v a b (c.2 _ (aaD a)))
 |agg h r ih=>
  intro n c
  rw [nS,j6,aaO] at c
  exact .agg h (fun i d v a b=>ih i d v a b (c _ (aaD a)))
 |aL h r ih=>
  intro n c
  rw [nS,j6,aaO] at c
  exact .aL h (fun i d v a b=>ih i d v a b (c _ (aaD a)))
theorem qa {s:List Ob} {size id:Nat} {d d':D} {o:Option Nat} {ob:Ob} (h:sY s size id d=some (d',o,ob)):
  (∃fl sz xs,d= .aY fl sz xs∧d'= .aY (.tok id 0) size xs∧ob= .dD 0 size∧(sz=size∨xs= [])∧((fl= .tight∧o=none)∨∃i v,fl= .tok i v∧o=some i∧s.getD i .dead= .dD v size))∨
  (∃i n cs,d= .dm i size n∧d'= .dm id size n∧o=some i∧s.getD i .dead= .box cs∧ob= .box (cs.map D.bg)):=by
 unfold sY at h
 split at h
 ·rename_i sz xs
  split at h
  ·rename_i hk
   simp only [aak,abe] at h
   obtain ⟨rfl,rfl,rfl⟩:=h
   simp only [ur,aax,aaG,List.isEmpty_iff] at hk
   exact .inl ⟨_,sz,xs,rfl,rfl,rfl,hk,.inl ⟨rfl,rfl⟩⟩
  ·cases h
 ·rename_i i v sz xs
  split at h
  ·rename_i v' UX hs
   split at h
   ·rename_i hk
    simp only [aak,abe] at h
    obtain ⟨rfl,rfl,rfl⟩:=h
    simp only [ur,aax,aae,aaG,List.isEmpty_iff] at hk
    obtain ⟨rfl,rfl,hk⟩:=hk
    exact .inl ⟨_,sz,xs,rfl,rfl,rfl,hk,.inr ⟨i,v',rfl,rfl,hs⟩⟩
   ·cases h
  ·cases h
 ·rename_i i sz n
  split at h
  ·rename_i cs hs
   split at h
   ·rename_i hk
    rw [aaG] at hk
    subst hk
    simp only [aak,abe] at h
    obtain ⟨rfl,rfl,rfl⟩:=h
    exact .inr ⟨i,n,cs,rfl,rfl,rfl,hs,rfl⟩
   ·cases h
  ·cases h
 ·cases h
theorem vl {t:List D} {s:List Ob} :∀ {fs:List (Nat×Nat)} {id:Nat} {used:List (Option Nat)} {new:List Ob},A0 t s fs id=some (used,new)→
  (used.length=fs.length∧new.length=fs.length)∧∀(j k size:Nat),fs[j]? =some (k,size)→∃d' o ob,sY s size (id+j) (je t s k)=some (d',o,ob)∧used[j]? =some o∧new[j]? =some ob
 | [],id,used,new,h=>by
  simp only [A0,aak,abe] at h
  obtain ⟨rfl,rfl⟩:=h
  exact ⟨⟨rfl,rfl⟩,fun j k size h=>by simp at h⟩
 |(k,size)::r,id,used,new,h=>by
  simp only [A0] at h
  split at h
  ·rename_i d' o ob l O7 h1 h2
   simp only [aak,abe] at h
   obtain ⟨rfl,rfl⟩:=h
   obtain ⟨k1,k2⟩:=vl h2
   refine ⟨by simp [k1.1,k1.2],fun j k' Yd hj=> ?_⟩
   cases j with
   |zero=>
    simp only [abb,aak,abe] at hj
    obtain ⟨rfl,rfl⟩:=hj
    exact ⟨d',o,ob,h1,rfl,rfl⟩
   |succ j=>
    simp only [abf] at hj
    obtain ⟨d2,o2,ob2,q1,q2,q3⟩:=k2 j k' Yd hj
    exact ⟨d2,o2,ob2,by rw [show id+(j+1)=id+1+j by omega];exact q1,by simpa using q2,by simpa using q3⟩
  ·cases h
theorem qf {i:Nat} :∀ {fs:List (Nat×Nat)} {id Wz size:Nat},findF i fs id=some (Wz,size)→∃j,Wz=id+j∧fs[j]? =some (i,size)
 | [],id,Wz,size,h=>by simp [findF] at h
 |(k,sz)::r,id,Wz,size,h=>by
  simp only [findF] at h
  split at h
  ·rename_i hk
   rw [aaG] at hk
   simp only [aak,abe] at h
   obtain ⟨rfl,rfl⟩:=h
   exact ⟨0,rfl,by simp [hk]⟩
  ·obtain ⟨j,h1,h2⟩:=qf h
   exact ⟨j+1,by omega,by simpa using h2⟩
theorem HW {i:Nat} {fs:List (Nat×Nat)} {n0 id size:Nat} (h:Lf i fs n0=some (id,size)):i<ep∧findF i fs n0=some (id,size):=by
 unfold Lf at h
 split at h
 ·cases h
 ·rename_i hb
  refine ⟨?_,h⟩
  rcases aaA i ep with q|q
  ·exact q
  ·rw [Nat.ble_eq_true_of_le q] at hb;cases hb
theorem HX {i j:Nat} {fs:List (Nat×Nat)} {n0 id size:Nat} (h:FF i j fs n0=some (id,size)):j<1000∧findF (ep+i*1000+j) fs n0=some (id,size):=by
 unfold FF at h
 split at h
 ·rename_i hb
  exact ⟨by rw [Nat.blt_eq] at hb;exact hb,h⟩
 ·cases h
theorem se {sp:HS} {n0:Nat} {s:List Ob} :∀ {t:List D} {i:Nat} {t':List D},sf sp n0 s i t=some t'→
  t'.length=t.length∧∀k d d',t[k]? =some d→t'[k]? =some d'→Jq sp n0 s (i+k) d=some d'
 | [],i,t',h=>by
  simp only [sf,aak] at h
  subst h
  exact ⟨rfl,fun k d d' h=>by simp at h⟩
 |d::r,i,t',h=>by
  simp only [sf] at h
  split at h
  ·rename_i d1 l h1 h2
   obtain rfl:=aad h
   obtain ⟨k1,k2⟩:=se h2
   refine ⟨by simp [k1],fun k d2 d3 a b=> ?_⟩
   cases k with
   |zero=>simp at a b;subst a b;exact h1
   |succ k=>
    simp at a b
    rw [show i+(k+1)=i+1+k by omega]
    exact k2 k d2 d3 a b
  ·cases h
theorem tG {sp:HS} {n0:Nat} {s:List Ob} {i:Nat} :∀ {cs:List D} {j:Nat} {Us:List D},ql sp n0 s i j cs=some Us→
  Us.length=cs.length∧∀(k:Nat) (d d':D),cs[k]? =some d→Us[k]? =some d'→(∃id size o ob,FF i (j+k) sp.nE n0=some (id,size)∧sY s size id d=some (d',o,ob))∨(nS n0 d=true∧d'=d)
 | [],j,Us,h=>by
  simp only [ql,aak] at h
  subst h
  exact ⟨rfl,fun k d d' h=>by simp at h⟩
 |a::r,j,Us,h=>by
  rw [ql] at h
  split at h
  ·rename_i d1 l h1 h2
   obtain rfl:=aad h
   obtain ⟨k1,k2⟩:=tG h2
   refine ⟨by simp [k1],fun k d d' p q=> ?_⟩
   cases k with
   |zero=>
    simp at p q
    subst p q
    split at h1
    ·rename_i id size hf
     split at h1
     ·rename_i d2 o hg
      obtain rfl:=aad h1
      exact .inl ⟨id,size,o.1,o.2,hf,hg⟩
     ·cases h1
    ·split at h1
     ·rename_i U3
      exact .inr ⟨U3,(aad h1).symm⟩
     ·cases h1
   |succ k=>
    simp at p q
    rw [show j+(k+1)=j+1+k by omega]
    exact k2 k d d' p q
  ·cases h
theorem AL {sp:HS} {n0:Nat} {s0:List Ob} {used:List (Option Nat)} {new:List Ob} :∀ {n i:Nat} {s s':List Ob},G1 sp n0 s0 used new n i s=some s'→
  ∃l,s'=l++new∧l.length=n∧∀k o,l[k]? =some o→∃o0,s[k]? =some o0∧Rt sp n0 s0 used (i+k) o0=some o
 |0,i,s,s',h=>by
  simp only [G1,aak] at h
  exact ⟨[],by simp [h],rfl,fun k o h=>by simp at h⟩
 |n+1,i,[],s',h=>by simp [G1] at h
 |n+1,i,o::r,s',h=>by
  simp only [G1] at h
  split at h
  ·rename_i o' l h1 h2
   obtain rfl:=aad h
   obtain ⟨l',rfl,k2,k3⟩:=AL h2
   refine ⟨o'::l',rfl,by simp [k2],fun k o2 hk=> ?_⟩
   cases k with
   |zero=>simp at hk;subst hk;exact ⟨o,rfl,h1⟩
   |succ k=>
    simp at hk
    obtain ⟨o0,q1,q2⟩:=k3 k o2 hk
    exact ⟨o0,by simpa using q1,by rw [show i+(k+1)=i+1+k by omega];exact q2⟩
  ·cases h
theorem pk {i:Nat} :∀ {l:List (Option Nat)},uz i l=true↔some i∈l
 | []=>by simp [uz]
 |none::r=>by simp [uz,pk]
 |some a::r=>by
  unfold uz
  split
  ·rename_i h;rw [aaG] at h;subst h;simp
  ·rename_i h
   rw [pk]
   have:a≠i:=fun e=>by subst e;simp at h
   simp [Ne.symm this]
def lJ (i:Nat):List (Option Nat)→Nat→Option Nat
  | [],_=>none
  |none::r,id=>lJ i r (id+1)
  |some a::r,id=>if a=i then some id else lJ i r (id+1)
theorem iO {i:Nat} :∀ {l:List (Option Nat)} {id:Nat},some i∉l→lJ i l id=none
 | [],id,_=>rfl
 |none::r,id,h=>by simp only [lJ];exact iO (by simpa using h)
 |some a::r,id,h=>by
  simp only [abj,aak,not_or] at h
  simp only [lJ,if_neg (Ne.symm h.1)]
  exact iO h.2
theorem nh {i:Nat} :∀ {l:List (Option Nat)} {id j:Nat},vz l=true→l[j]? =some (some i)→lJ i l id=some (id+j)
 | [],id,j,_,h=>by simp at h
 |none::r,id,j,hd,h=>by
  simp only [vz] at hd
  simp only [lJ]
  cases j with
  |zero=>simp at h
  |succ j=>rw [show id+(j+1)=id+1+j by omega];exact nh hd (by simpa using h)
 |some a::r,id,j,hd,h=>by
  simp only [vz,aae,aaK] at hd
  simp only [lJ]
  cases j with
  |zero=>simp at h;simp [h]
  |succ j=>
   have hm:some i∈r:=aaD (by simpa using h)
   have:a≠i:=fun e=>by subst e;rw [pk.2 hm] at hd;simp at hd
   rw [if_neg this,show id+(j+1)=id+1+j by omega]
   exact nh hd.2 (by simpa using h)
def sV (sp:HS) (t:List D) (s:List Ob):Prop:= ∀cs∈yb sp t s,∀c∈cs,c.clean=true
theorem nT {s:List Ob} {i:Nat} {cs:List D} (h:s.getD i .dead= .box cs):∀ {l:List Nat},jy (ep+i) l=true→cs∈p9 s l
 | [],h1=>by simp [jy] at h1
 |o::r,h1=>by
  rw [lh] at h1
  rcases abj.1 h1 with e|e
  ·rw [p9,← e,show abq ep (ep+i)=true by rw [abh];omega]
   simp only []
   rw [show ep+i - ep=i by omega,FR,h]
   simp
  ·rw [p9]
   split
   ·exact List.mem_append_right _ (nT h (lh.2 e))
   ·exact nT h (lh.2 e)
theorem sX {t:List D} {s:List Ob} {k size i sz n:Nat} {cs:List D} (hr:je t s k= .dm i sz n) (h:s.getD i .dead= .box cs):∀ {l:List (Nat×Nat)} {j:Nat},l[j]? =some (k,size)→cs∈yd t s l
 | [],j,h1=>by simp at h1
 |(k',z)::r,j,h1=>by
  rw [yd]
  cases j with
  |zero=>
   simp only [abb,aak,abe] at h1
   obtain ⟨rfl,rfl⟩:=h1
   rw [hr]
   simp only [FR,h]
   simp
  |succ j=>exact List.mem_append_right _ (sX hr h (by simpa using h1))
theorem sW {t:List D} {i:Nat} {cs:List D} (h:t.getD i .undef= .agg cs):∀ {l:List Nat},jy (ep+i) l=true→cs∈yc t l
 | [],q=>by cases q
 |o::r,q=>by
  rw [yc]
  rcases abj.1 (lh.1 q) with e|e
  ·rw [← e,show abq ep (ep+i)=true by rw [abh];omega,show ep+i - ep=i by omega,h]
   simp
  ·exact List.mem_append_right _ (sW h (lh.2 e))
theorem qZ {sp:HS} {n0:Nat} {s:List Ob} {used:List (Option Nat)} {i:Nat} {o0 o:Ob} (h:Rt sp n0 s used i o0=some o) (hd:o≠ .dead):some i∉used∧
  ((∃cs,o0= .box cs∧o= .box (cs.map D.bg)∧jy (ep+i) sp.O7=true)∨(∃cs,o0= .box cs∧o= .box cs∧mc n0 cs=true)∨(∃cs Us,o0= .box cs∧o= .box Us∧ql sp n0 s i 0 cs=some Us)∨
   (∃k t ps ag bd,o0= .lp k t ps ag bd∧o= .lp k t ps ag bd∧mc n0 t=true)∨(o=o0∧(∀cs,o≠ .box cs)∧∀k t ps ag bd,o≠ .lp k t ps ag bd)):=by
 have nu:∀ {b:Bool},(b&& !uz i used)=true→some i∉used:=fun {b} hk hm=>by
  simp only [aae,aaK] at hk
  rw [pk.2 hm] at hk
  simp at hk
 unfold Rt at h
 split at h
 ·rename_i hk
  refine ⟨nu hk,?_⟩
  split at h
  ·rename_i cs
   simp only [aae] at hk
   exact .inl ⟨cs,rfl,(aad h).symm,hk.1⟩
  ·cases h
 ·split at h
  ·exact absurd (aad h).symm hd
  ·rename_i hk
   refine ⟨nu hk,?_⟩
   split at h
   ·rename_i cs
    split at h
    ·rename_i Us hc
     exact .inr (.inr (.inl ⟨cs,Us,rfl,(aad h).symm,hc⟩))
    ·cases h
   ·rename_i k t ps ag bd
    split at h
    ·rename_i U3
     exact .inr (.inr (.inr (.inl ⟨k,t,ps,ag,bd,rfl,(aad h).symm,U3⟩)))
    ·cases h
   ·rename_i h1 h2
    obtain rfl:=aad h
    exact .inr (.inr (.inr (.inr ⟨rfl,h1,h2⟩)))
theorem nq {sp:HS} {n0:Nat} {t t':List D} {s s':List Ob} (h:pj sp n0 t s=some (t',s')) (V2:sV sp t s):
  (n0≤s'.length∧s'.length=n0+sp.nE.length)∧∀ {w0:eJ} {M:MM} {own:Nat→Option Nat} {w:World} {tmps:Array Value},n0≤s.length→ca w0 M own (bJ s) w→M.upto s.length→cy M t tmps→
   ∃M' TW,ca w0 M' TW (bJ s') w∧M'.upto s'.length∧(M.cut n0).Le M'∧cy M' t' tmps:=by
 unfold pj at h
 split at h
 ·rename_i used new hu
  split at h
  ·rename_i Xl
   split at h
   ·rename_i t1 s1 ht hs
    simp only [aak,abe] at h
    obtain ⟨rfl,rfl⟩:=h
    obtain ⟨l,rfl,hl,hob⟩:=AL hs
    obtain ⟨ht1,V7⟩:=se ht
    obtain ⟨⟨ZG,hu2⟩,hgrow⟩:=vl hu
    have hlen:(l++new).length=n0+sp.nE.length:=by simp [hl,hu2]
    refine ⟨⟨by omega,hlen⟩,?_⟩
    intro w0 M own w tmps hn hw VS T0
    let rv:Nat→Value:=fun k=>match abq ep k with
     |false=>tmps.getD k undef
     |true=>match M.box ((k - ep) / 1000) with
      |some b=>(w.cell? ⟨b,(k - ep)%1000,none⟩).getD undef
      |none=>undef
    have XV:∀k,je t s k≠ .undef→b7 M (je t s k) (rv k):=by
     intro k Ut
     cases hb:abq ep k with
     |false=>
      simp only [je,rv,hb]
      exact jS T0 k
     |true=>
      simp only [je,rv,hb] at Ut ⊢
      split at Ut
      ·rename_i cs T6
       obtain ⟨b,vs,ty,kb⟩:=hw.box _ cs T6
       have hc:∃d,cs[(k - ep)%1000]? =some d:=by
        cases e:cs[(k - ep)%1000]? with
        |none=>rw [aaf,e] at Ut;exact absurd rfl Ut
        |some d=>exact ⟨d,rfl⟩
       obtain ⟨d,hd⟩:=hc
       obtain ⟨u,h1,h2⟩:=m8 kb.len kb.rep hd
       rw [kb.box,aaf,hd]
       simp only [World.cell?,kb.dI,h1]
       exact h2
      ·exact absurd rfl Ut
    let bxN:Nat→Option Nat:=fun j=>match sp.nE[j]? with
     |some (k,_)=>(match je t s k with| .dm i _ _=>M.box i|_=>none)
     |none=>none
    let hdr:Nat→Nat→Option Value:=fun j v=>match sp.nE[j]? with
     |some (k,size)=>(match je t s k with| .dm _ _ _=>(if v=size then some (rv k) else none)|_=>(if v=0 then some (rv k) else none))
     |none=>none
    let M':MM:=⟨M.cell,fun i=>if i<n0 then M.box i else bxN (i - n0),fun i v=>if i<n0 then M.bX i v else hdr (i - n0) v,M.fM⟩
    let ren:Nat→Option Nat:=fun i=>match lJ i used n0 with|some k=>some k|none=>if i<n0 then some i else none
    let TW:Nat→Option Nat:=fun b=>(own b).bind ren
    have hle:(M.cut n0).Le M':=by
     refine ⟨fun _ _ _ h=>h,fun i b k=> ?_,fun i v b k=> ?_,fun _ h=>h⟩
     ·simp only [MM.cut] at k
      split at k
      ·rename_i q;simp only [M',if_pos q];exact k
      ·cases k
     ·simp only [MM.cut] at k
      split at k
      ·rename_i q;simp only [M',if_pos q];exact k
      ·cases k
    have root:∀(j k size:Nat),sp.nE[j]? =some (k,size)→
      (∃fl sz xs a len cap o,je t s k= .aY fl sz xs∧rv k= .slice a len cap∧used[j]? =some o∧new[j]? =some (.dD 0 size)∧(sz=size∨xs= [])∧b7 M (.aY fl sz xs) (.slice a len cap)∧((fl= .tight∧o=none)∨∃i v,fl= .tok i v∧o=some i∧s.getD i .dead= .dD v size))∨
      (∃i n cs b cap,je t s k= .dm i size n∧rv k= .slice (some ⟨b,0,none⟩) n cap∧used[j]? =some (some i)∧new[j]? =some (.box (cs.map D.bg))∧s.getD i .dead= .box cs∧M.box i=some b∧M.bX i size=some (.slice (some ⟨b,0,none⟩) n cap)∧n≤cap∧∀c∈cs,c.clean=true):=by
     intro j k size hj
     obtain ⟨d',o,ob,h1,h2,h3⟩:=hgrow j k size hj
     rcases qa h1 with ⟨fl,sz,xs,q1,q2,rfl,q3,q4⟩|⟨i,n,cs,q1,q2,rfl,q3,rfl⟩
     ·have hr:=XV k (by rw [q1];simp)
      rw [q1] at hr
      generalize hv:rv k=v at hr
      cases hr with
      |aY b off vs hl TZ ha T8 hc hr T5 ho=>
       exact .inl ⟨fl,sz,xs,_,_,_,o,q1,rfl,h2,h3,q3,.aY b off vs hl TZ ha T8 hc hr T5 ho,q4⟩
     ·have hr:=XV k (by rw [q1];simp)
      rw [q1] at hr
      generalize hv:rv k=v at hr
      cases hr with
      |dm hb hh hc=>
       exact .inr ⟨i,n,cs,_,_,q1,rfl,h2,h3,q3,hb,hh,hc,V2 cs (List.mem_append_right _ (List.mem_append_left _ (sX q1 q3 hj)))⟩
    have newAt:∀ {i:Nat} {o:Ob},bJ (l++new) i=o→o≠ .dead→(i<n0∧l[i]? =some o)∨(n0≤i∧∃k size,sp.nE[i - n0]? =some (k,size)∧new[i - n0]? =some o):=by
     intro i o hi Ut
     unfold bJ at hi
     rcases aaA i l.length with T1|V5
     ·rw [aaf,List.getElem?_append_left T1] at hi
      rw [List.getElem?_eq_getElem T1] at hi ⊢
      exact .inl ⟨by omega,by simpa using hi⟩
     ·rw [aaf,List.getElem?_append_right V5] at hi
      rw [hl] at hi V5
      cases e:new[i - n0]? with
      |none=>rw [e] at hi;exact absurd hi.symm Ut
      |some x=>
       rw [e] at hi
       simp only [Option.getD_some] at hi
       subst hi
       have T1:i - n0<sp.nE.length:=by
        rw [← hu2]
        rcases aaA (i - n0) new.length with q|q
        ·exact q
        ·rw [aam q] at e;cases e
       exact .inr ⟨V5,sp.nE[i - n0].1,sp.nE[i - n0].2,by simp [T1],rfl⟩
    have mj:∀ {i:Nat} {o0:Ob},s[i]? =some o0→bJ s i=o0:=fun {i o0} h1=>by unfold bJ;rw [aaf,h1];rfl
    have WN:∀ {j k size:Nat} {fl:ln} {sz:Nat} {xs:List D},sp.nE[j]? =some (k,size)→je t s k= .aY fl sz xs→b7 M (.aY fl sz xs) (rv k)→(sz=size∨xs= [])→b7 M' (.aY (.tok (n0+j) 0) size xs) (rv k):=by
     intro j k size fl sz xs hj q1 hr q3
     refine b7.resize (sz:=sz) ?_ q3
     generalize hv:rv k=v at hr
     cases hr with
     |aY b off vs WV TZ ha T8 hc hr T5 ho=>
      refine .aY b off vs WV TZ ha T8 hc hr T5 ?_
      simp only [MM.pR,M',if_neg (show ¬n0+j<n0 by omega),hdr,show n0+j - n0=j by omega,hj,q1,if_true,hv]
    have Wq:∀ {j k size i n b cap:Nat},sp.nE[j]? =some (k,size)→je t s k= .dm i size n→rv k= .slice (some ⟨b,0,none⟩) n cap→M.box i=some b→n≤cap→b7 M' (.dm (n0+j) size n) (rv k):=by
     intro j k size i n b cap hj q1 hv hb hc
     rw [hv]
     refine .dm (b:=b) ?_ ?_ hc
     ·simp only [M',if_neg (show ¬n0+j<n0 by omega),bxN,show n0+j - n0=j by omega,hj,q1];exact hb
     ·simp only [M',if_neg (show ¬n0+j<n0 by omega),hdr,show n0+j - n0=j by omega,hj,q1,if_true,hv]
    refine ⟨M',TW,⟨hw.below,hw.cells,hw.mj,?_,?_,?_,?_,?_,hw.fM⟩,?_,hle,?_⟩
    ·intro b i k
     simp only [TW] at k
     cases e:own b with
     |none=>rw [e] at k;cases k
     |some i'=>exact hw.owned b i' e
    ·
     intro i cs hi
     rcases newAt hi (by simp) with ⟨T1,hli⟩|⟨V5,k,size,hj,Uo⟩
     ·obtain ⟨o0,h1,h2⟩:=hob i _ hli
      rw [aaY] at h2
      obtain ⟨hnu,Uw⟩:=qZ h2 (by simp)
      have kept:∀ {VX:List D},o0= .box VX→cs.length=VX.length→(∀(b:Nat) (vs:Array Value) (ty:TypeId),tV w0 M own i VX w b vs ty→∀(j:Nat) (d:D) (v:Value),cs[j]? =some d→vs[j]? =some v→b7 M' d v)→∃b vs ty,tV w0 M' TW i cs w b vs ty:=by
       intro VX e Zq WJ
       subst e
       obtain ⟨b,vs,ty,k⟩:=hw.box i VX (mj h1)
       refine ⟨b,vs,ty,by simp only [M',if_pos T1];exact k.box,k.base,?_,k.none,k.dI,by rw [Zq];exact k.len,WJ b vs ty k,fun sz a len cap q=>k.room sz a len cap (by simpa only [M',if_pos T1] using q)⟩
       simp only [TW,k.own,abx,ren,iO hnu,if_pos T1]
      rcases Uw with ⟨VX,rfl,e,hm⟩|⟨VX,rfl,e,U3⟩|⟨VX,Us,rfl,e,hc⟩|⟨_,_,_,_,_,_,e,_⟩|⟨rfl,Zz,_⟩
      ·obtain rfl:=Ob.box.inj e
       have Xt:=V2 VX (List.mem_append_left _ (nT (mj h1) hm))
       refine kept rfl (by simp) fun b vs ty k j d v p q=> ?_
       rw [aau,aat] at p
       obtain ⟨d0,p0,rfl⟩:=p
       exact ((k.rep j d0 v p0 q).pF (Xt _ (aaD p0))).mono (MM.lV M')
      ·obtain rfl:=Ob.box.inj e
       rw [j6,aaO] at U3
       exact kept rfl rfl fun b vs ty k j d v p q=>((k.rep j d v p q).cut (U3 _ (aaD p))).mono hle
      ·obtain rfl:=Ob.box.inj e
       obtain ⟨c1,c2⟩:=tG hc
       refine kept rfl c1 fun b vs ty k j d v p q=> ?_
       have hj0:j<VX.length:=by
        rw [← c1]
        rcases aaA j cs.length with h|h
        ·exact h
        ·rw [aam h] at p;cases p
       have YF:VX[j]? =some VX[j]:=by simp [hj0]
       rcases c2 j _ d YF p with ⟨id,size,o,ob,hf,hg⟩|⟨U3,rfl⟩
       ·rw [aaY] at hf
        obtain ⟨hj1,hf⟩:=HX hf
        obtain ⟨jj,rfl,hjj⟩:=qf hf
        obtain ⟨d2,o2,ob2,hg2,hu3,hn3⟩:=hgrow jj _ size hjj
        have e1:(ep+i*1000+j - ep) / 1000=i:=by omega
        have e2:(ep+i*1000+j - ep)%1000=j:=by omega
        have Yz:abq ep (ep+i*1000+j)=true:=by rw [abh];omega
        have U7:je t s (ep+i*1000+j)=VX[j]:=by
         simp only [je,Yz,e1,e2]
         rw [show s.getD i .dead= .box VX from mj h1]
         simp only []
         rw [aaf,YF]
         rfl
        have Uj:rv (ep+i*1000+j)=v:=by
         simp only [rv,Yz,e1,e2]
         rw [k.box]
         simp only [World.cell?,k.dI,q]
         rfl
        rcases qa hg with ⟨fl,sz,xs,q1,rfl,_,q3,_⟩|⟨i',n,Us,q1,rfl,_,q3,_⟩
        ·have hr:=WN hjj (U7.trans q1) (by rw [Uj,← q1];exact k.rep j _ v YF q) q3
         rw [Uj] at hr
         exact hr
        ·rcases root jj _ size hjj with ⟨_,_,_,_,_,_,_,r1,_⟩|⟨i2,n2,Wf,b2,cap2,r1,r2,_,_,_,r3,_,r4,_⟩
         ·rw [U7,q1] at r1;cases r1
         ·rw [U7,q1] at r1
          cases r1
          have hr:=Wq hjj (U7.trans q1) r2 r3 r4
          rw [Uj] at hr
          exact hr
       ·exact ((k.rep j _ v YF q).cut U3).mono hle
      ·cases e
      ·exact absurd rfl (Zz cs)
     ·rcases root _ k size hj with ⟨_,_,_,_,_,_,_,_,_,_,r,_⟩|⟨i',n,VX,b,cap,q1,q2,q3,q4,q5,q6,q7,q8,q9⟩
      ·rw [Uo] at r;cases r
      ·rw [Uo] at q4
       obtain rfl:=Ob.box.inj (aad q4)
       obtain ⟨b2,vs,ty,kb⟩:=hw.box i' VX q5
       obtain rfl:b2=b:=by have:=kb.box;rw [q6] at this;exact (aad this).symm
       have Z1:¬i<n0:=by omega
       refine ⟨b2,vs,ty,?_,kb.base,?_,kb.none,kb.dI,by simpa using kb.len,fun j d v p q=> ?_,fun sz a len Up q=> ?_⟩
       ·simp only [M',if_neg Z1,bxN,hj,q1];exact q6
       ·simp only [TW,kb.own,abx,ren,nh Xl q3]
        congr 1
        omega
       ·rw [aau,aat] at p
        obtain ⟨d0,p0,rfl⟩:=p
        exact ((kb.rep j d0 v p0 q).pF (q9 _ (aaD p0))).mono (MM.lV M')
       ·simp only [M',if_neg Z1,hdr,hj,q1] at q
        split at q
        ·rename_i e
         subst e
         rw [q2] at q
         obtain ⟨rfl,rfl,rfl⟩:=Value.slice.inj (aad q)
         exact kb.room _ _ _ _ q7
        ·cases q
    ·
     intro i ver sz hi
     rcases newAt hi (by simp) with ⟨T1,hli⟩|⟨V5,k,size,hj,Uo⟩
     ·obtain ⟨o0,h1,h2⟩:=hob i _ hli
      rw [aaY] at h2
      obtain ⟨hnu,Uw⟩:=qZ h2 (by simp)
      have ho:o0= .dD ver sz:=by
       rcases Uw with ⟨_,_,e,_⟩|⟨_,_,e,_⟩|⟨_,_,_,e,_⟩|⟨_,_,_,_,_,_,e,_⟩|⟨rfl,_⟩
       ·cases e
       ·cases e
       ·cases e
       ·cases e
       ·rfl
      subst ho
      obtain ⟨a,len,cap,k⟩:=hw.dD i ver sz (mj h1)
      refine ⟨a,len,cap,by simp only [M',if_pos T1];exact k.bX,fun v hv=>by simp only [M',if_pos T1];exact k.last v hv,?_⟩
      rcases k.room with q|⟨b,vs,ty,fz,ha,r⟩
      ·exact .inl q
      ·refine .inr ⟨b,vs,ty,fz,ha,r.base,?_,r.dI,r.fz,r.cap,r.none⟩
       simp only [TW,r.own,abx,ren,iO hnu,if_pos T1]
     ·have Yy:¬i<n0:=by omega
      rcases root _ k size hj with ⟨fl,Zl,xs,a,len,cap,o,q1,q2,q3,q4,q5,q6,q7⟩|⟨_,_,_,_,_,_,_,_,r,_⟩
      ·rw [Uo] at q4
       obtain ⟨rfl,rfl⟩:=Ob.dD.inj (aad q4)
       refine ⟨a,len,cap,?_,fun v hv=> ?_,?_⟩
       ·simp only [M',if_neg Yy,hdr,hj,q1,if_true,q2]
       ·simp only [M',if_neg Yy,hdr,hj,q1,if_neg (show ¬v=0 by omega)]
       ·cases q6 with
        |aY b off vs WV TZ ha T8 hc hr T5 ho=>
         rcases q7 with ⟨rfl,rfl⟩|⟨i',v,rfl,rfl,hs'⟩
         ·exact .inl ho
         ·obtain ⟨a',T2,Up,k2⟩:=hw.dD i' v _ hs'
          have:M.bX i' v=some _:=ho
          rw [k2.bX] at this
          obtain ⟨rfl,rfl,rfl⟩:=Value.slice.inj (aad this)
          rcases k2.room with q|⟨b,vs,ty,fz,ha,r⟩
          ·exact .inl q
          ·refine .inr ⟨b,vs,ty,fz,ha,r.base,?_,r.dI,r.fz,r.cap,r.none⟩
           simp only [TW,r.own,abx,ren,nh Xl q3]
           congr 1
           omega
      ·rw [Uo] at r;cases r
    ·
     intro i F hi
     obtain ⟨o,Yx⟩:∃o,bJ (l++new) i=o:=⟨_,rfl⟩
     rw [Yx] at hi
     have nb:∀cs,o≠ .box cs:=fun cs e=>by rw [e] at hi;cases hi
     have nd:o≠ .dead:=fun e=>by rw [e] at hi;cases hi
     have nf:∀v sz,o≠ .dD v sz:=fun v sz e=>by rw [e] at hi;cases hi
     have nl:∀k t ps ag bd,o≠ .lp k t ps ag bd:=fun k t ps ag bd e=>by rw [e] at hi;cases hi
     rcases newAt Yx nd with ⟨T1,hli⟩|⟨V5,k,size,hj,Uo⟩
     ·obtain ⟨o0,h1,h2⟩:=hob i _ hli
      rw [aaY] at h2
      obtain ⟨hnu,Uw⟩:=qZ h2 nd
      have ho:o0=o:=by
       rcases Uw with ⟨_,_,e,_⟩|⟨_,_,e,_⟩|⟨_,_,_,e,_⟩|⟨_,_,_,_,_,_,e,_⟩|⟨rfl,_⟩
       ·exact absurd e (nb _)
       ·exact absurd e (nb _)
       ·exact absurd e (nb _)
       ·exact absurd e (nl _ _ _ _ _)
       ·rfl
      subst ho
      obtain ⟨b,T3,clock,k⟩:=hw.mp i F (by rw [mj h1];exact hi)
      refine ⟨b,T3,clock,by simp only [M',if_pos T1];exact k.box,k.base,?_,k.none,k.dI,k.fits⟩
      simp only [TW,k.own,abx,ren,iO hnu,if_pos T1]
     ·rcases root _ k size hj with ⟨_,_,_,_,_,_,_,_,_,_,r,_⟩|⟨_,_,_,_,_,_,_,_,r,_⟩<;>rw [Uo] at r<;>obtain rfl:=aad r
      ·exact absurd rfl (nf _ _)
      ·exact absurd rfl (nb _)
    ·
     intro i kk tt ps ag bd hi
     rcases newAt hi (by simp) with ⟨T1,hli⟩|⟨V5,k,size,hj,Uo⟩
     ·obtain ⟨o0,h1,h2⟩:=hob i _ hli
      rw [aaY] at h2
      obtain ⟨hnu,Uw⟩:=qZ h2 (by simp)
      have ho:o0= .lp kk tt ps ag bd∧mc n0 tt=true:=by
       rcases Uw with ⟨_,_,e,_⟩|⟨_,_,e,_⟩|⟨_,_,_,e,_⟩|⟨_,_,_,_,_,rfl,e,U3⟩|⟨_,_,XK⟩
       ·cases e
       ·cases e
       ·cases e
       ·cases e;exact ⟨rfl,U3⟩
       ·exact absurd rfl (XK _ _ _ _ _)
      obtain ⟨rfl,U3⟩:=ho
      rw [j6,aaO] at U3
      obtain ⟨b,r,k⟩:=hw.lp i kk tt ps ag bd (mj h1)
      refine ⟨b,r,by simp only [M',if_pos T1];exact k.box,k.base,?_,k.dI,k.st,k.pd,⟨k.tm.1,fun j d v p q=>((k.tm.2 j d v p q).cut (U3 _ (aaD p))).mono hle⟩,k.ps,k.ag,k.bd⟩
      simp only [TW,k.own,abx,ren,iO hnu,if_pos T1]
     ·rcases root _ k size hj with ⟨_,_,_,_,_,_,_,_,_,_,r,_⟩|⟨_,_,_,_,_,_,_,_,r,_⟩<;>rw [Uo] at r<;>cases r
    ·
     refine ⟨fun id UB=> ?_,fun id v UB=> ?_⟩
     ·simp only [M',if_neg (show ¬id<n0 by omega),bxN]
      rw [aam (by omega)]
     ·simp only [M',if_neg (show ¬id<n0 by omega),hdr]
      rw [aam (by omega)]
    ·
     refine ⟨by rw [ht1];exact T0.1,fun i d' v p q=> ?_⟩
     have ZS:i<t.length:=by
      rcases aaA i t.length with h|h
      ·exact h
      ·rw [aam (by omega)] at p;cases p
     have hd:t[i]? =some t[i]:=by simp [ZS]
     have VJ:=V7 i _ d' hd p
     rw [aaY] at VJ
     unfold Jq at VJ
     split at VJ
     ·rename_i id size hf
      split at VJ
      ·rename_i d2 o hg
       obtain rfl:=aad VJ
       obtain ⟨hbi,hf⟩:=HW hf
       obtain ⟨j,rfl,hj⟩:=qf hf
       ·have ZU:abq ep i=false:=by
         cases e:abq ep i with
         |false=>rfl
         |true=>rw [abh] at e;omega
        have U7:je t s i=t[i]:=by
         simp only [je,ZU]
         rw [aaf,hd]
         rfl
        have Uj:rv i=v:=by
         simp only [rv,ZU]
         rw [Array.getD_eq_getD_getElem?,q]
         rfl
        rcases qa hg with ⟨fl,sz,xs,q1,rfl,_,q3,_⟩|⟨i',n,Us,q1,rfl,_,q3,_⟩
        ·have hr:=WN hj (U7.trans q1) (by rw [Uj,← q1];exact T0.2 i _ v hd q) q3
         rw [Uj] at hr
         exact hr
        ·rcases root j _ size hj with ⟨_,_,_,_,_,_,_,r1,_⟩|⟨i2,n2,Wf,b2,cap2,r1,r2,_,_,_,r3,_,r4,_⟩
         ·rw [U7,q1] at r1;cases r1
         ·rw [U7,q1] at r1
          cases r1
          have hr:=Wq hj (U7.trans q1) r2 r3 r4
          rw [Uj] at hr
          exact hr
      ·cases VJ
     ·split at VJ
      ·split at VJ
       ·rename_i U3
        obtain rfl:=aad VJ
        exact ((T0.2 i _ v hd q).cut U3).mono hle
       ·cases VJ
      ·split at VJ
       ·rename_i hm
        split at VJ
        ·rename_i cs T6
         obtain rfl:=aad VJ
         have T6:t[i]= .agg cs:=T6
         have hc:=V2 cs (List.mem_append_right _ (List.mem_append_right _ (sW (by rw [aaf,hd];exact T6) hm)))
         have hr:=(T0.2 i _ v hd q)
         rw [T6] at hr
         have hb:=hr.pF (by rw [D.clean,D.jT,aaO];exact hc)
         rw [D.bg,D.gI] at hb
         exact hb.mono (MM.lV M')
        ·cases VJ
       ·obtain rfl:=aad VJ
        exact .undef v
   ·cases h
  ·cases h
 ·cases h
section
variable {P:Program}
inductive bL (P:Program) (c:Code) (n0:Nat):List D→List Ob→Ex→List D→List Ob→Prop
  |out {t:List D} {s:List Ob} {ex:Ex} {t1 t':List D} {s1 s':List Ob} (sp:HS) (h:l4 P c t s ex t1 s1) (hx:ex≠ .norm) (hh:pj sp n0 t1 s1=some (t',s')) (V2:sV sp t1 s1):bL P c n0 t s ex t' s'
  |again {t:List D} {s:List Ob} {t1 t2:List D} {s1 s2:List Ob} {ex:Ex} {t':List D} {s':List Ob} (sp:HS) (h:l4 P c t s .norm t1 s1) (hh:pj sp n0 t1 s1=some (t2,s2)) (V2:sV sp t1 s1) (k:bL P c n0 t2 s2 ex t' s'):bL P c n0 t s ex t' s'
theorem bL.depth {c:Code} {n0:Nat} {t:List D} {s:List Ob} {ex:Ex} {t':List D} {s':List Ob} (h:bL P c n0 t s ex t' s'):n0≤s.length→n0≤s'.length∧
  ∃n,∀(rr:Option Nat) (K:Nat→Prop) (w0:eJ) (M:MM) (own:Nat→Option Nat) (w:World) (a:Act) (L:MM),L.Le (M.cut n0)→ca w0 M own (bJ s) w→M.upto s.length→cy M t a.tmps→iz K M a.defers→
   Code.roundsIn (FW rr) 0 P c (fun e a' w'=>ex.is e∧∃M' TW,ca w0 M' TW (bJ s') w'∧M'.upto s'.length∧L.Le M'∧cy M' t' a'.tmps∧iz K M' a'.defers) n a w:=by
 induction h with
 |out sp h hx hh V2=>
  intro hn
  obtain ⟨hl,hhead⟩:=nq hh V2
  refine ⟨hl.1,1,fun rr K w0 M own w a L le hw hu ht hd=> ?_⟩
  rw [roundsIn_succ]
  refine wpIn_mono (h.run rr (fun e=>by cases e) K w0 M own w a hw hu ht hd) ?_
  rintro e a' w' ⟨h0,M1,own1,q1,q2,q3,q4,q5⟩
  obtain ⟨M2,U4,r1,r2,r3,r4⟩:=hhead (abu hn h.len) q1 q2 q4
  have fin:∃M' TW,ca w0 M' TW (bJ _) w'∧M'.upto _∧L.Le M'∧cy M' _ a'.tmps∧iz K M' a'.defers:=⟨M2,U4,r1,r2,(le.trans (MM.mO q3 n0)).trans r3,r4,q5.mono r3.fM⟩
  rename_i ex _ _ _ _
  cases ex with
  |norm=>exact absurd rfl hx
  |exit i=>cases e<;>simp only [Ex.is] at h0;exact ⟨h0,fin⟩
  |ret=>cases e<;>simp only [Ex.is] at h0;exact ⟨h0,fin⟩
 |again sp h hh V2 k ih=>
  intro hn
  obtain ⟨hl,hhead⟩:=nq hh V2
  obtain ⟨i1,n,i2⟩:=ih hl.1
  refine ⟨i1,n+1,fun rr K w0 M own w a L le hw hu ht hd=> ?_⟩
  rw [roundsIn_succ]
  refine wpIn_mono (h.run rr (fun e=>by cases e) K w0 M own w a hw hu ht hd) ?_
  rintro e a' w' ⟨h0,M1,own1,q1,q2,q3,q4,q5⟩
  obtain ⟨M2,U4,r1,r2,r3,r4⟩:=hhead (abu hn h.len) q1 q2 q4
  cases e<;>simp only [Ex.is] at h0
  refine i2 rr K w0 M2 U4 w' a' L ?_ r1 r2 r4 (q5.mono r3.fM)
  have:=MM.mO r3 n0
  rw [MM.lR] at this
  exact (le.trans (MM.mO q3 n0)).trans this
theorem b5.eK {c:Code} {n0:Nat} {t:List D} {s:List Ob} {ex:Ex} {t':List D} {s':List Ob} (hn:n0≤s.length) (h:bL P c n0 t s ex t' s'):b5 P n0 (.loop c) t s ex t' s':=by
 obtain ⟨h1,n,h2⟩:=h.depth hn
 exact ⟨fun rr K w0 M own w a hw hu ht hd=>wpIn_loop_rounds n (h2 rr K w0 M own w a (M.cut n0) (.refl _) hw hu ht hd),h1⟩
theorem pz {ρ':Type} {r:ρ'} :∀ {l:List (List D)} {z:Z P} {k:Z P→Option ρ'},Iy l z k=some r→∃z',k z'=some r∧(z'.c→z.c∧∀cs∈l,∀c∈cs,c.clean=true)
 | [],z,k,h=>⟨z,h,fun q=>⟨q,fun _ h=>by simp at h⟩⟩
 |cs::l,z,k,h=>by
  rw [Iy] at h
  split at h
  ·rename_i Us hc o _
   obtain ⟨z',h1,h2⟩:=pz h
   refine ⟨z',h1,fun q=>⟨(h2 q).1.2,fun x hx=> ?_⟩⟩
   rcases abj.1 hx with rfl|hx
   ·exact (h2 q).1.1▸hc
   ·exact (h2 q).2 x hx
  ·cases h
theorem bB.Fk {rd:Bool} {c:Code} {sp:HS} {t t1:List D} {s s1:List Ob} {ex:Ex} {t2:List D} {s2:List Ob} (h:b5 P s.length c t1 s1 ex t2 s2) (hh:pj sp s.length t s=some (t1,s1)) (V2:sV sp t s):bB P rd c t s ex t2 s2:=by
 obtain ⟨hl,hhead⟩:=nq hh V2
 refine ⟨fun rr _ K w0 M own w a hw hu ht hd=> ?_,h.len⟩
 obtain ⟨M2,U4,r1,r2,r3,r4⟩:=hhead (aar _) hw hu ht
 refine wpIn_mono (h.run rr K w0 M2 U4 w a r1 r2 r4 (hd.mono r3.fM)) ?_
 rintro e a' w' ⟨h0,M',TW,q1,q2,q3,q4,q5⟩
 have:=MM.mO r3 s.length
 rw [MM.lR] at this
 exact ⟨h0,M',TW,q1,q2,((MM.Pq hu).trans this).trans q3,q4,q5⟩
inductive l3 (P:Program) (rd:Bool) (c:Code):List D→List Ob→Ex→List D→List Ob→Prop
  |out {t:List D} {s:List Ob} {ex:Ex} {t1:List D} {s1:List Ob} (h:bB P rd c t s ex t1 s1) (hx:ex≠ .norm):l3 P rd c t s ex t1 s1
  |again {t:List D} {s:List Ob} {t1:List D} {s1:List Ob} {ex:Ex} {t':List D} {s':List Ob} (h:bB P rd c t s .norm t1 s1) (k:l3 P rd c t1 s1 ex t' s'):l3 P rd c t s ex t' s'
theorem l3.depth {rd:Bool} {c:Code} {t:List D} {s:List Ob} {ex:Ex} {t':List D} {s':List Ob} (h:l3 P rd c t s ex t' s'):s.length≤s'.length∧
  ∃n,∀(rr:Option Nat) (_:rd=false→rr=none) (K:Nat→Prop) (w0:eJ) (M:MM) (own:Nat→Option Nat) (w:World) (a:Act) (L:MM),L.Le M→ca w0 M own (bJ s) w→M.upto s.length→cy M t a.tmps→iz K M a.defers→
   Code.roundsIn (FW rr) 0 P c (fun e a' w'=>ex.is e∧∃M' TW,ca w0 M' TW (bJ s') w'∧M'.upto s'.length∧L.Le M'∧cy M' t' a'.tmps∧iz K M' a'.defers) n a w:=by
 induction h with
 |out h hx=>
  refine ⟨h.len,1,fun rr Vx K w0 M own w a L le hw hu ht hd=> ?_⟩
  rw [roundsIn_succ]
  refine wpIn_mono (h.run rr Vx K w0 M own w a hw hu ht hd) ?_
  rintro e a' w' ⟨h0,M1,own1,q1,q2,q3,q4,q5⟩
  have fin:∃M' TW,ca w0 M' TW (bJ _) w'∧M'.upto _∧L.Le M'∧cy M' _ a'.tmps∧iz K M' a'.defers:=⟨M1,own1,q1,q2,le.trans q3,q4,q5⟩
  rename_i ex _ _
  cases ex with
  |norm=>exact absurd rfl hx
  |exit i=>cases e<;>simp only [Ex.is] at h0;exact ⟨h0,fin⟩
  |ret=>cases e<;>simp only [Ex.is] at h0;exact ⟨h0,fin⟩
 |again h k ih=>
  obtain ⟨i1,n,i2⟩:=ih
  refine ⟨abu h.len i1,n+1,fun rr Vx K w0 M own w a L le hw hu ht hd=> ?_⟩
  rw [roundsIn_succ]
  refine wpIn_mono (h.run rr Vx K w0 M own w a hw hu ht hd) ?_
  rintro e a' w' ⟨h0,M1,own1,q1,q2,q3,q4,q5⟩
  cases e<;>simp only [Ex.is] at h0
  exact i2 rr Vx K w0 M1 own1 w' a' L (le.trans q3) q1 q2 q4 q5
theorem bB.eK {rd:Bool} {c:Code} {t:List D} {s:List Ob} {ex:Ex} {t':List D} {s':List Ob} (h:l3 P rd c t s ex t' s'):bB P rd (.loop c) t s ex t' s':=by
 obtain ⟨h1,n,h2⟩:=h.depth
 exact ⟨fun rr Vx K w0 M own w a hw hu ht hd=>wpIn_loop_rounds n (h2 rr Vx K w0 M own w a M (.refl _) hw hu ht hd),h1⟩
theorem AW {rd:Bool} {ρ':Type} {r:ρ'} {c:Code} {body:List D→List Ob→Z P→(Ex→List D→List Ob→Z P→Option ρ')→Option ρ'}
  (hb:∀ {t:List D} {s:List Ob} {z:Z P} {K:Ex→List D→List Ob→Z P→Option ρ'},body t s z K=some r→∃ex t' s' z',K ex t' s' z'=some r∧(z'.c→z.c∧bB P rd c t s ex t' s')):
  ∀ {n:Nat} {t:List D} {s:List Ob} {z:Z P} {K:Ex→List D→List Ob→Z P→Option ρ'},iter body n t s z K=some r→∃ex t' s' z',K ex t' s' z'=some r∧(z'.c→z.c∧l3 P rd c t s ex t' s')
 |0,t,s,z,K,h=>by simp [iter] at h
 |n+1,t,s,z,K,h=>by
  rw [iter] at h
  obtain ⟨ex,t1,s1,z1,h1,h2⟩:=hb h
  split at h1
  ·obtain ⟨ex',t2,s2,z2,h3,h4⟩:=AW hb h1
   exact ⟨ex',t2,s2,z2,h3,fun q=>⟨(h2 (h4 q).1).1,.again (h2 (h4 q).1).2 (h4 q).2⟩⟩
  ·rename_i Ut
   exact ⟨_,t1,s1,z1,h1,fun q=>⟨(h2 q).1,.out (h2 q).2 Ut⟩⟩
end
def FY (K:Nat→Prop) (w0:eJ) (M:MM) (ex:Ex) (t':List D) (s':List Ob):Exit→Act→World→Prop:=
  fun e a' w'=>ex.is e∧∃M' TW,ca w0 M' TW (bJ s') w'∧M'.upto s'.length∧M.Le M'∧cy M' t' a'.tmps∧iz K M' a'.defers
theorem BZ {K:Nat→Prop} {w0:eJ} {M M1:MM} (le:M.Le M1) {ex:Ex} {t':List D} {s':List Ob} {e:Exit} {a:Act} {w:World} (h:FY K w0 M1 ex t' s' e a w):FY K w0 M ex t' s' e a w:=by
 obtain ⟨h0,M',TW,h1,h2,h3,h4,h5⟩:=h
 exact ⟨h0,M',TW,h1,h2,le.trans h3,h4,h5⟩
theorem iM {P:Program} {b:Frame} {a:Act} {k:List Item} {cs:List Frame} {w:World} {c:Code} :step P (lone (b.atR a (.code (.scope c)::k)) cs w)= .next (lone (b.atR a (.code c:: .inScope c::k)) cs w):=
 step_lone_go (by simp [stepG,stepG.exec,Frame.atR])
theorem ua {P:Program} {b:Frame} {a:Act} {k:List Item} {cs:List Frame} {w:World} {c:Code} :step P (lone (b.atR a (.inScope c::k)) cs w)= .next (lone (b.atR a k) cs w):=
 step_lone_go (by simp [stepG,stepG.exec,Frame.atR])
theorem nz {P:Program} {F:Fence} {n:Nat} {Q:Exit→Act→World→Prop} {a:Act} {w:World} {c:Code} (h:c.wpIn F n P (Exit.noGoto Q) a w):(Code.scope c).wpIn F n P Q a w:=by
 intro b k cs hro hb hr
 have h0:(lone (b.atR a (.code (.scope c)::k)) cs w).fenced P F:=fenced_calm hb hr rfl
 obtain ⟨e,a₁,w₁,hq,UW⟩:=h b (.inScope c::k) cs hro hb hr
 cases e with
 |normal=>exact ⟨.normal,a₁,w₁,hq,.head h0 iM (StepsIn.trans UW (.one (fenced_calm hb hr rfl) ua))⟩
 |exit id=>
  have hx:exitTo id (.inScope c::k)=exitTo id k:=by simp [exitTo]
  exact ⟨.exit id,a₁,w₁,hq,fun k' hk=> .head h0 iM (UW.1 k' (by rw [hx];exact hk)),
   fun WK hk=>let ⟨k₁,h1,h2⟩:=UW.2 WK (by rw [hx];exact hk);⟨k₁,h1,.head h0 iM h2⟩⟩
 |goto l=>exact hq.elim
 |ret=>exact ⟨_,a₁,w₁,hq,.of_steps (.one h0 iM) UW⟩
 |panic ch=>exact ⟨_,a₁,w₁,hq,.of_steps (.one h0 iM) UW⟩
 |outgrown=>exact ⟨_,a₁,w₁,hq,.of_steps (.one h0 iM) UW⟩
section
variable {P:Program} {rd:Bool}
theorem bB.skip (t:List D) (s:List Ob):bB P rd .skip t s .norm t s:=
 ⟨fun _ _ _ _ M own _ _ hw hu ht hd=>wpIn_skip ⟨trivial,M,own,hw,hu,.refl M,ht,hd⟩,aar _⟩
theorem bB.label (l:Nat) (t:List D) (s:List Ob):bB P rd (.label l) t s .norm t s:=
 ⟨fun _ _ _ _ M own _ _ hw hu ht hd=>wpIn_label ⟨trivial,M,own,hw,hu,.refl M,ht,hd⟩,aar _⟩
theorem bB.exit (i:Nat) (t:List D) (s:List Ob):bB P rd (.exit i) t s (.exit i) t s:=
 ⟨fun _ _ _ _ M own _ _ hw hu ht hd=>wpIn_exit ⟨rfl,M,own,hw,hu,.refl M,ht,hd⟩,aar _⟩
theorem bB.RN (t:List D) (s:List Ob):bB P rd .ret t s .ret t s:=
 ⟨fun _ _ _ _ M own _ _ hw hu ht hd=>wpIn_ret ⟨trivial,M,own,hw,hu,.refl M,ht,hd⟩,aar _⟩
theorem bB.RH {x y:Code} {t t1 t2:List D} {s s1 s2:List Ob} {ex:Ex} (h:bB P rd x t s .norm t1 s1) (k:bB P rd y t1 s1 ex t2 s2):bB P rd (.seq x y) t s ex t2 s2:=by
 refine ⟨fun rr Vx K w0 M own w a hw hu ht hd=>wpIn_seq (wpIn_mono (h.run rr Vx K w0 M own w a hw hu ht hd) ?_),abu h.len k.len⟩
 rintro e a' w' ⟨h0,M',TW,h1,h2,h3,h4,h5⟩
 cases e<;>simp only [Ex.is] at h0
 exact wpIn_mono (k.run rr Vx K w0 M' TW w' a' h1 h2 h4 h5) fun e a w hh=>BZ h3 hh
theorem bB.RF {x y:Code} {t t1:List D} {s s1:List Ob} {ex:Ex} (h:bB P rd x t s ex t1 s1) (hx:ex≠ .norm):bB P rd (.seq x y) t s ex t1 s1:=by
 refine ⟨fun rr Vx K w0 M own w a hw hu ht hd=>wpIn_seq (wpIn_mono (h.run rr Vx K w0 M own w a hw hu ht hd) ?_),h.len⟩
 rintro e a' w' ⟨h0,h1⟩
 cases ex with
 |norm=>exact absurd rfl hx
 |exit i=>cases e<;>simp only [Ex.is] at h0;exact ⟨h0,h1⟩
 |ret=>cases e<;>simp only [Ex.is] at h0;exact ⟨h0,h1⟩
theorem bB.cond {c:Operand} {x y:Code} {t t1:List D} {s s1:List Ob} {ex:Ex} {b:Bool} (hb:cJ t c= .bool b) (h:bB P rd (if b then x else y) t s ex t1 s1):bB P rd (.cond c x y) t s ex t1 s1:=by
 refine ⟨fun rr Vx K w0 M own w a hw hu ht hd=>wpIn_cond (t:=b) ?_ (h.run rr Vx K w0 M own w a hw hu ht hd),h.len⟩
 have hr:=oM ht c
 rw [hb] at hr
 generalize hv:a.eval c=v at hr
 cases hr
 rfl
theorem bB.PH {id:Nat} {x:Code} {t t1:List D} {s s1:List Ob} (h:bB P rd x t s (.exit id) t1 s1):bB P rd (.block id x) t s .norm t1 s1:=by
 refine ⟨fun rr Vx K w0 M own w a hw hu ht hd=>wpIn_block (wpIn_mono (h.run rr Vx K w0 M own w a hw hu ht hd) ?_),h.len⟩
 rintro e a' w' ⟨h0,h1⟩
 cases e<;>simp only [Ex.is] at h0
 subst h0
 simp only [Exit.inBlock,if_true]
 exact ⟨trivial,h1⟩
theorem bB.LC {id:Nat} {x:Code} {t t1:List D} {s s1:List Ob} {ex:Ex} (h:bB P rd x t s ex t1 s1) (hx:∀i,ex= .exit i→i≠id):bB P rd (.block id x) t s ex t1 s1:=by
 refine ⟨fun rr Vx K w0 M own w a hw hu ht hd=>wpIn_block (wpIn_mono (h.run rr Vx K w0 M own w a hw hu ht hd) ?_),h.len⟩
 rintro e a' w' ⟨h0,h1⟩
 cases ex with
 |norm=>cases e<;>simp only [Ex.is] at h0;exact ⟨h0,h1⟩
 |exit i=>
  cases e<;>simp only [Ex.is] at h0
  subst h0
  simp only [Exit.inBlock,if_neg (hx _ rfl)]
  exact ⟨rfl,h1⟩
 |ret=>cases e<;>simp only [Ex.is] at h0;exact ⟨h0,h1⟩
theorem bB.scope {x:Code} {t t1:List D} {s s1:List Ob} {ex:Ex} (h:bB P rd x t s ex t1 s1):bB P rd (.scope x) t s ex t1 s1:=by
 refine ⟨fun rr Vx K w0 M own w a hw hu ht hd=>nz (wpIn_mono (h.run rr Vx K w0 M own w a hw hu ht hd) ?_),h.len⟩
 rintro e a' w' ⟨h0,h1⟩
 cases ex<;>cases e<;>simp only [Ex.is] at h0<;>exact ⟨h0,h1⟩
theorem bB.text {id:Nat} {ops:Array Oper} {t t1:List D} {s s1:List Ob} {tr:List Tr} (h:Trace P ops ops.toList t s tr t1 s1):bB P rd (.region id ops false) t s .norm t1 s1:=by
 refine ⟨fun rr Vx K w0 M own w a hw hu ht hd=>wpIn_region ?_,jW h⟩
 rw [List.range_eq_range',show ops.size=ops.toList.length by simp]
 exact qv rr h 0 rfl hw hu ht rfl fun M' TW w' a' le up UY Yv Yo=>⟨trivial,M',TW,UY,up,le,Yv,Yo▸hd.mono le.fM⟩
theorem bB.draw {id:Nat} {ops:Array Oper} {t t1:List D} {s s1:List Ob} {tr:List Tr} (hm:P.follows .mixedOrders=true) (h:Trace P ops ops.toList t s tr t1 s1) (hd:nW ops ((tr.map Tr.fp).reverse++ [])=true):bB P rd (.region id ops true) t s .norm t1 s1:=
 ⟨fun rr _ K _ _ _ _ _ hw hu ht Zy=>Ai h hd hm id hw hu ht rfl rr fun M' TW _ _ le up UY Yv Yo=>⟨trivial,M',TW,UY,up,le,Yv,Yo▸Zy.mono le.fM⟩,jW h⟩
theorem ui {P:Program} {a:Act} {g:Operand} {gf:FuncId} {fv cv:Array Value} {l:Nat} (hf:a.eval g= .func (.func gf) fv cv) (w:World):
  (resolve a.eval (rangeCall g l) 0).run P w= .ok { target:= .fn (.func gf) cv,args:=fv++ #[.func (.yield l) #[] #[]] } w:=by
 have e:a.eval (.const (.func (.yield l) #[] #[]))= .func (.yield l) #[] #[]:=rfl
 simp [rangeCall,resolve,hf,Deferred.ofValue,e]
theorem cy.kF {M:MM} {aU:List Nat} :∀ {t:List D} {vs:Array Value} (i:Nat),cy M t vs→cy M (kF aU i t) vs:=by
 intro t vs i h
 have len:∀(t:List D) (i:Nat),(Go.Ev.kF aU i t).length=t.length:=by
  intro t
  induction t with
  |nil=>intro i;rfl
  |cons d r ih=>intro i;simp [Go.Ev.kF,ih]
 have Uf:∀(t:List D) (i k:Nat) (d:D),(Go.Ev.kF aU i t)[k]? =some d→d= .undef∨t[k]? =some d:=by
  intro t
  induction t with
  |nil=>intro i k d h;simp [Go.Ev.kF] at h
  |cons a r ih=>
   intro i k d h
   cases k with
   |zero=>
    simp only [Go.Ev.kF,abb,aak] at h
    split at h
    ·exact .inr (by simp [h])
    ·exact .inl h.symm
   |succ k=>simp only [Go.Ev.kF,abf] at h;simpa using ih _ _ _ h
 refine ⟨by rw [len];exact h.1,fun k d v p q=> ?_⟩
 rcases Uf t i k d p with rfl|e
 ·exact .undef v
 ·exact h.2 k d v e q
theorem cy.set {M:MM} {t:List D} {vs:Array Value} (h:cy M t vs) {i:Nat} {d:D} {v:Value} (hr:b7 M d v):cy M (t.set i d) (vs.setIfInBounds i v):=by
 refine ⟨by simp [h.1],fun k d' v' p q=> ?_⟩
 by_cases e:k=i
 ·subst e
  have T1:k<t.length:=by
   rcases aaA k t.length with x|x
   ·exact x
   ·rw [aam (by simpa using x)] at p;cases p
  have WC:k<vs.size:=by rw [← h.1];exact T1
  simp [T1] at p
  simp [WC] at q
  subst p q
  exact hr
 ·rw [List.getElem?_set_ne (Ne.symm e)] at p
  rw [Array.getElem?_setIfInBounds_ne (Ne.symm e)] at q
  exact h.2 k d' v' p q
theorem cy.my {M:MM} :∀ {ps:List Nat} {args:List D} {vs:List Value} {t:List D} {tv:Array Value},cy M t tv→args.length=vs.length→(∀(i:Nat) (d:D) (v:Value),args[i]? =some d→vs[i]? =some v→b7 M d v)→
  cy M (my t (ps.zip args)) ((ps.zip vs).foldl (fun tmps (x:Nat×Value)=>tmps.setIfInBounds x.1 x.2) tv)
 | [],args,vs,t,tv,h,hl,hr=>by simpa [Go.Ev.my] using h
 |p::ps,[],[],t,tv,h,hl,hr=>by simpa [Go.Ev.my] using h
 |p::ps,[],v::vs,t,tv,h,hl,hr=>by simp at hl
 |p::ps,d::args,[],t,tv,h,hl,hr=>by simp at hl
 |p::ps,d::args,v::vs,t,tv,h,hl,hr=>by
  simp only [List.zip_cons_cons,Go.Ev.my,List.foldl_cons]
  exact cy.my (h.set (hr 0 d v rfl rfl)) (by simpa using hl) (fun i d' v' a b=>hr (i+1) d' v' (by simpa using a) (by simpa using b))
theorem bB.range {g:Operand} {ps:Array Tmp} {ag bd:Code} {t:List D} {s:List Ob} {gf:FuncId} {first cap:List D} {aU:List Nat} {d:D} {s2:List Ob} {k:Lk} {t5:List D} {WQ:Array Nat} {Wu Wt:Code} {ex:Ex}
  (hg:cJ t g= .fn (.func gf) first cap) (Ud:ak P gf (first++(.jx s.length::cap)) (s++ [.lp .ready (kF aU 0 t) ps ag bd]) d s2) (hk:s2.getD s.length .dead= .lp k t5 WQ Wu Wt)
  (hex:(k= .ready∧ex= .norm)∨(k= .ret∧ex= .ret)∨∃i,k= .exit i∧ex= .exit i):bB P false (.rangeFunc g ps ag bd) t s ex t (s2.set s.length .dead):=by
 have hlen:=Ud.len
 rw [aap,abl] at hlen
 refine ⟨fun rr Vx K w0 M own w a hw hu ht hd=> ?_,by rw [aa1];omega⟩
 obtain rfl:=Vx rfl
 have U1:=oM ht g
 rw [hg] at U1
 generalize hfv:a.eval g=fval at U1
 cases U1 with
 |fn h1 h2 r1 r2=>
  rename_i fv cv
  refine wpIn_rangeFunc ?_
  intro fn _
  have WW:=hw.QM
  obtain ⟨rec,hrec⟩:∃rec:Loop,rec= { state:= .ready,pending:=none,fn,tmps:=a.tmps,params:=ps,assign:=ag,body:=bd,defers:=w.heap.size } :=⟨_,rfl⟩
  have XP:=M.vj w.heap.size
  have VN:(M.pE w.heap.size).box s.length=none:=hu.1 _ (aar _)
  have hhs:∀v,(M.pE w.heap.size).bX s.length v=none:=fun v=>hu.2 _ v (aar _)
  have Vh:=WW.QN (k:= .ready) (t:=kF aU 0 t) (r:=rec) VN hhs (by rw [hrec];rfl) (fun _=>by rw [hrec];rfl) (by rw [hrec];exact (ht.mono XP).kF 0)
  have VG:=MM.fX (b:=(w.alloc (.deferred (some []))).heap.size) VN
  have T8:(w.alloc (.deferred (some []))).heap.size=w.heap.size+1:=World.size_alloc _ _
  rw [show rec.params=ps by rw [hrec],show rec.assign=ag by rw [hrec],show rec.body=bd by rw [hrec],← pG] at Vh
  have VS:((M.pE w.heap.size).cL s.length (w.alloc (.deferred (some []))).heap.size).upto (s++ [Ob.lp .ready (kF aU 0 t) ps ag bd]).length:=by
   rw [aap,abl]
   refine ⟨fun i hi=> ?_,fun i v hi=>hu.2 i v (by omega)⟩
   simp only [MM.cL,if_neg (show ¬i=s.length by omega)]
   exact hu.1 i (by omega)
  have T4:cy ((M.pE w.heap.size).cL s.length (w.alloc (.deferred (some []))).heap.size) (first++(.jx s.length::cap)) ((fv++ #[.func (.yield (w.heap.size+1)) #[] #[]])++cv):=by
   rw [Array.append_assoc]
   refine cy.append (cy.mono ⟨h1,r1⟩ (XP.trans VG)) ?_
   rw [show (D.jx s.length::cap)= [D.jx s.length]++cap from rfl]
   refine cy.append ⟨rfl,fun i d v p q=> ?_⟩ (cy.mono ⟨h2,r2⟩ (XP.trans VG))
   cases i with
   |zero=>
    simp at p q
    subst p q
    exact .jx (by simp [MM.cL,T8])
   |succ i=>simp at p
  obtain ⟨fnc,code,e1,e2,e3⟩:=Ud.Ij
  refine ⟨w.heap.size+1,[{ target:= .collected w.heap.size,args:= #[] }],(w.alloc (.deferred (some []))).alloc (.loop rec),_,_,gf,(fv++ #[.func (.yield (w.heap.size+1)) #[] #[]])++cv,(w.alloc (.deferred (some []))).alloc (.loop rec),?_,ui hfv _,fun _ _=>trivial,?_,fun e=>(by cases e),?_⟩
  ·rw [hrec];exact run_enterLoop_outer _ _ _ _ _
  ·simp only [invoke,callFunc,aay,run_program,Result.andThen_ok,e1,e3,Bool.false_eq_true,if_false,e2,Option.isNone_some,aaH]
  have WO:CallsIn (FW none) (0 - 1) P gf ((fv++ #[.func (.yield (w.heap.size+1)) #[] #[]])++cv) ((w.alloc (.deferred (some []))).alloc (.loop rec)) _:=(callsIn_wide (n:=0)).2 (Ud.run w0 _ _ _ _ Vh VS T4)
  refine WO.mono ?_
  rintro e w3 ⟨v,M',TW,rfl,q1,q2,q3,q4⟩
  have VZ:M.Le M':=(XP.trans VG).trans q3
  obtain ⟨l,r,q⟩:=q1.lp s.length k t5 WQ Wu Wt hk
  have Yz:M'.box s.length=some (w.heap.size+1):=q3.box _ _ (by simp [MM.cL,T8])
  have el:l=w.heap.size+1:=by have:=q.box;rw [Yz] at this;exact (aad this).symm
  subst el
  have Zz:k≠ .busy:=by rcases hex with ⟨rfl,_⟩|⟨rfl,_⟩|⟨i,rfl,_⟩<;>(intro e;cases e)
  have T5:r.state≠ .busy:=by
   rw [q.st]
   rcases hex with ⟨rfl,_⟩|⟨rfl,_⟩|⟨i,rfl,_⟩<;>(intro e;cases e)
  have Yq:=q1.Jx (k':= .ready) (r':= { r with state:= .exhausted }) q .dead (.inl rfl)
  have T1:s.length<s2.length:=by omega
  rw [← mu T1] at Yq
  have hd4:iz K M' ({ target:= .collected w.heap.size,args:= #[] } ::a.defers):=by
   obtain ⟨k0,bs,b1,b2,b3⟩:=hd
   have Uo:∀b,M.fM b→b≠w.heap.size:=fun b hb e=>by
    have:=(hw.fM b hb).2
    rw [e] at this
    simp at this
   refine ⟨fun b hb=>VZ.fM b (k0 b hb),w.heap.size::bs,by rw [b1];rfl,List.nodup_cons.2 ⟨fun hm=>Uo _ (b3 _ hm).1 rfl,b2⟩,?_⟩
   intro b hb
   rcases abj.1 hb with rfl|hb
   ·exact ⟨q3.fM _ (VG.fM _ (.inr rfl)),fun hK=>Uo _ (k0 _ hK) rfl⟩
   ·exact ⟨VZ.fM b (b3 b hb).1,(b3 b hb).2⟩
  have fin:∃M' TW,ca w0 M' TW (bJ (s2.set s.length .dead)) (cM w3 (w.heap.size+1) (.loop { r with state:= .exhausted }))∧M'.upto (s2.set s.length .dead).length∧M.Le M'∧cy M' t a.tmps∧iz K M' ({ target:= .collected w.heap.size,args:= #[] } ::a.defers):=
   ⟨M',TW,Yq,by rw [aa1];exact q2,VZ,ht.mono VZ,hd4⟩
  refine ⟨k.MF,cM w3 (w.heap.size+1) (.loop { r with state:= .exhausted }),?_,?_⟩
  ·rw [← q.pd Zz]
   exact run_endLoop (P:=P) q.dI T5
  ·rcases hex with ⟨rfl,rfl⟩|⟨rfl,rfl⟩|⟨i,rfl,rfl⟩
   ·exact ⟨trivial,fin⟩
   ·exact wpIn_ret ⟨trivial,fin⟩
   ·exact wpIn_exit ⟨rfl,fin⟩
variable {ρ':Type} {r:ρ'}
theorem fN {inl:FZ P ρ'} (Um:lq P inl) (hm:P.follows .mixedOrders=true):∀ {rd:Bool} (c:Code) {t:List D} {s:List Ob} {z:Z P} {K:Ex→List D→List Ob→Z P→Option ρ'},gA P inl rd c t s z K=some r→
  ∃ex t' s' z',K ex t' s' z'=some r∧(z'.c→z.c∧bB P rd c t s ex t' s')
 |rd,.skip,t,s,z,K,h=>⟨_,_,_,z,by simpa only [gA] using h,fun c=>⟨c,.skip t s⟩⟩
 |rd,.label l,t,s,z,K,h=>⟨_,_,_,z,by simpa only [gA] using h,fun c=>⟨c,.label l t s⟩⟩
 |rd,.exit i,t,s,z,K,h=>⟨_,_,_,z,by simpa only [gA] using h,fun c=>⟨c,.exit i t s⟩⟩
 |rd,.ret,t,s,z,K,h=>⟨_,_,_,z,by simpa only [gA] using h,fun c=>⟨c,.RN t s⟩⟩
 |rd,.scope x,t,s,z,K,h=>by
  rw [gA] at h
  obtain ⟨ex,t',s',z',h1,h2⟩:=fN Um hm x h
  exact ⟨ex,t',s',z',h1,fun c=>⟨(h2 c).1,(h2 c).2.scope⟩⟩
 |rd,.region id ops draw,t,s,z,K,h=>by
  rw [gA] at h
  obtain ⟨tr,t',s',z',h1,h2⟩:=gG Um h
  split at h1
  ·exact ⟨_,_,_,z',h1,fun c=>⟨(h2 c).1,.text (h2 c).2⟩⟩
  ·obtain ⟨hd,h1⟩:=bW h1
   exact ⟨_,_,_,z',h1,fun c=>⟨(h2 c).1,.draw hm (h2 c).2 hd⟩⟩
 |rd,.seq x y,t,s,z,K,h=>by
  rw [gA] at h
  obtain ⟨ex,t1,s1,z1,h1,h2⟩:=fN Um hm x h
  split at h1
  ·obtain ⟨ex',t2,s2,z2,h3,h4⟩:=fN Um hm y h1
   exact ⟨ex',t2,s2,z2,h3,fun c=>⟨(h2 (h4 c).1).1,(h2 (h4 c).1).2.RH (h4 c).2⟩⟩
  ·rename_i Ut
   exact ⟨_,_,_,z1,h1,fun c=>⟨(h2 c).1,(h2 c).2.RF Ut⟩⟩
 |rd,.cond q x y,t,s,z,K,h=>by
  rw [gA] at h
  split at h
  ·rename_i b hb
   obtain ⟨z1,⟨h1,h2⟩|⟨h1,h2⟩⟩:=nZ h
   ·obtain ⟨ex,t',s',z',h3,h4⟩:=fN Um hm x h1
    exact ⟨ex,t',s',z',h3,fun c=>⟨(h2 (h4 c).1).1,.cond (b:=true) (by rw [hb,(h2 (h4 c).1).2]) (h4 c).2⟩⟩
   ·obtain ⟨ex,t',s',z',h3,h4⟩:=fN Um hm y h1
    exact ⟨ex,t',s',z',h3,fun c=>⟨(h2 (h4 c).1).1,.cond (b:=false) (by rw [hb,(h2 (h4 c).1).2]) (h4 c).2⟩⟩
  ·cases h
 |rd,.block id x,t,s,z,K,h=>by
  rw [gA] at h
  split at h
  ·rename_i sp n0 c' t1 s1 ex t2 s2 hg rest _
   split at h
   ·rename_i t' s' hh
    obtain ⟨hn,h'⟩:=bW h
    rw [aaG] at hn
    subst hn
    obtain ⟨z',h1,h2⟩:=pz h'
    exact ⟨ex,t2,s2,_,h1,fun q=>have k:=(h2 q).1;⟨k.2,.Fk (k.1.1▸k.1.2.1▸k.1.2.2▸hg) hh (h2 q).2⟩⟩
   ·cases h
  ·obtain ⟨ex,t1,s1,z1,h1,h2⟩:=fN Um hm x h
   split at h1
   ·rename_i i
    split at h1
    ·rename_i hi
     have hi:i=id:=by simpa using hi
     subst hi
     exact ⟨_,_,_,z1,h1,fun c=>⟨(h2 c).1,(h2 c).2.PH⟩⟩
    ·rename_i hi
     have hi:i≠id:=fun e=>by subst e;simp at hi
     exact ⟨_,_,_,z1,h1,fun c=>⟨(h2 c).1,(h2 c).2.LC fun j hj=>by cases hj;exact hi⟩⟩
   ·rename_i Ut
    exact ⟨_,_,_,z1,h1,fun c=>⟨(h2 c).1,(h2 c).2.LC fun j hj=>absurd hj (Ut j)⟩⟩
 |rd,.loop x,t,s,z,K,h=>by
  rw [gA] at h
  split at h
  ·obtain ⟨ex,t',s',z',h1,h2⟩:=AW (c:=x) (fun h=>fN Um hm x h) h
   exact ⟨ex,t',s',z',h1,fun k=>⟨(h2 k).1,.eK (h2 k).2⟩⟩
  ·rename_i sp n0 c' t1 s1 ex t2 s2 hg rest _
   split at h
   ·rename_i t' s' hh
    obtain ⟨hn,h'⟩:=bW h
    rw [aaG] at hn
    subst hn
    obtain ⟨z',h1,h2⟩:=pz h'
    exact ⟨ex,t2,s2,_,h1,fun q=>have k:=(h2 q).1;⟨k.2,.Fk (k.1.1▸k.1.2.1▸k.1.2.2▸hg) hh (h2 q).2⟩⟩
   ·cases h
  ·rename_i c' t1 s1 ex t2 s2 hg rest _
   exact ⟨ex,t2,s2,_,h,fun k=>⟨k.2,.any (k.1.1▸k.1.2.1▸k.1.2.2▸hg) _⟩⟩
  ·cases h
 |rd,.rangeFunc g ps ag bd,t,s,z,K,h=>by
  rw [gA] at h
  split at h
  ·split at h
   ·rename_i gf first cap hg
    rw [gW,pL] at h
    obtain ⟨d,s2,z1,h1,h2⟩:=Um (.fn gf) _ _ _ _ r h
    split at h1
    ·rename_i hk
     rw [iT] at h1
     exact ⟨_,_,_,z1,h1,fun c=>⟨(h2 c).1,bB.range hg (h2 c).2 hk (.inl ⟨rfl,rfl⟩)⟩⟩
    ·rename_i hk
     rw [iT] at h1
     exact ⟨_,_,_,z1,h1,fun c=>⟨(h2 c).1,bB.range hg (h2 c).2 hk (.inr (.inl ⟨rfl,rfl⟩))⟩⟩
    ·rename_i hk
     rw [iT] at h1
     exact ⟨_,_,_,z1,h1,fun c=>⟨(h2 c).1,bB.range hg (h2 c).2 hk (.inr (.inr ⟨_,rfl,rfl⟩))⟩⟩
    ·cases h1
   ·cases h
  ·rename_i c' t1 s1 ex t2 s2 hg rest _
   exact ⟨ex,t2,s2,_,h,fun k=>⟨k.2,.any (k.1.1▸k.1.2.1▸k.1.2.2▸hg) _⟩⟩
  ·cases h
 |rd,.goto l,t,s,z,K,h=>by
  rw [gA] at h
  split at h
  ·rename_i c' t1 s1 ex t2 s2 hg rest _
   exact ⟨ex,t2,s2,_,h,fun k=>⟨k.2,.any (k.1.1▸k.1.2.1▸k.1.2.2▸hg) _⟩⟩
  ·cases h
  all_goals (intros;rename_i q;cases q)
 |rd,.refuse y,t,s,z,K,h=>by
  rw [gA] at h
  split at h
  ·rename_i c' t1 s1 ex t2 s2 hg rest _
   exact ⟨ex,t2,s2,_,h,fun k=>⟨k.2,.any (k.1.1▸k.1.2.1▸k.1.2.2▸hg) _⟩⟩
  ·cases h
  all_goals (intros;rename_i q;cases q)
def GC (tmps:Array Value):ResultVar→Sem Value
  | .tmp t=>pure (tmps.getD t undef)
  | .cell a t=>do loadVar t (← asAddr (tmps.getD a undef))
theorem Cq (fn:Func) (tmps:Array Value):results fn tmps=(do
  let vs ← fn.results.mapM (GC tmps)
  pure (if h:vs.size=1 then vs[0] else .tuple vs)):=by
 unfold results
 rfl
theorem Cr {w0:eJ} {M:MM} {own:Nat→Option Nat} {w:World} {t:List D} {s:List Ob} {tmps:Array Value} (hw:ca w0 M own (bJ s) w) (ht:cy M t tmps) {x:ResultVar} {d:D} (h:xa P t s x=some d):
  ∃v,b7 M d v∧(GC tmps x).run P w= .ok v w:=by
 cases x with
 |tmp i=>
  simp only [xa,aak] at h
  subst h
  exact ⟨_,jS ht i,by simp [GC]⟩
 |cell a ty=>
  simp only [xa] at h
  split at h
  ·rename_i dyn id off hp
   split at h
   ·rename_i cs hb
    have hx:=jS ht a
    rw [hp] at hx
    generalize hv:tmps.getD a undef=v at hx
    cases hx with
    |ptr _ VN=>
     rename_i b'
     obtain ⟨b,vs,tt,k⟩:=hw.box id cs hb
     rw [k.box] at VN
     obtain rfl:=aad VN
     have Vk:∀j c,cs[j]? =some c→w.cell? ⟨b,0+j,none⟩=some (vs.getD j .nilFunc)∧b7 M c (vs.getD j .nilFunc):=by
      intro j c hj
      obtain ⟨u,hu,hru⟩:=m8 k.len k.rep hj
      rw [Array.getD_eq_getD_getElem?,hu]
      refine ⟨?_,hru⟩
      simp [World.cell?,k.dI,hu]
     have hp':mV P ty cs off d:=by
      split at h
      ·rename_i e he
       split at h
       ·rename_i ha
        split at h
        ·rename_i hk
         simp only [aae,abh] at hk
         exact ⟨e,he,.inl ⟨ha,hk.2,(aad h).symm⟩⟩
        ·cases h
       ·rename_i ha
        exact ⟨e,he,.inr ⟨ha,h⟩⟩
      ·cases h
     obtain ⟨u,h1,h2⟩:=jX hp' (fun j=>vs.getD j .nilFunc) Vk
     rw [aaY] at h1
     refine ⟨u,h2,?_⟩
     simp only [GC,hv,asAddr,aay,aaH,Result.andThen_ok,h1]
   ·cases h
  ·cases h
theorem Ad {w0:eJ} {M:MM} {own:Nat→Option Nat} {w:World} {t:List D} {s:List Ob} {tmps:Array Value} (hw:ca w0 M own (bJ s) w) (ht:cy M t tmps):∀ {l:List ResultVar} {ds:List D},Cs P t s l=some ds→
  ∃vs:List Value,ds.length=vs.length∧(∀(i:Nat) (d:D) (v:Value),ds[i]? =some d→vs[i]? =some v→b7 M d v)∧Sem.run P (List.mapM (GC tmps) l) w= .ok vs w
 | [],ds,h=>by
  simp only [Cs,aak] at h
  subst h
  exact ⟨[],rfl,fun i d v h=>by simp at h,by simp⟩
 |x::l,ds,h=>by
  simp only [Cs] at h
  split at h
  ·rename_i d YR hd hl
   obtain rfl:=aad h
   obtain ⟨v,h1,h2⟩:=Cr hw ht hd
   obtain ⟨vs,k1,k2,k3⟩:=Ad hw ht hl
   refine ⟨v::vs,by simp [k1],?_,?_⟩
   ·intro i d' v' a b
    cases i with
    |zero=>simp at a b;subst a b;exact h1
    |succ i=>simp at a b;exact k2 i d' v' a b
   ·rw [List.mapM_cons,aay,h2,Result.andThen_ok,aay,k3,Result.andThen_ok,aaH]
  ·cases h
theorem Ac {w0:eJ} {M:MM} {own:Nat→Option Nat} {w:World} {t:List D} {s:List Ob} {tmps:Array Value} {fn:Func} (hw:ca w0 M own (bJ s) w) (ht:cy M t tmps) {ds:List D} (h:Cs P t s fn.results.toList=some ds):
  ∃v,b7 M (Ct ds) v∧(results fn tmps).run P w= .ok v w:=by
 obtain ⟨vs,k1,k2,k3⟩:=Ad hw ht h
 have e:(results fn tmps).run P w= .ok (if h:vs.length=1 then vs[0] else .tuple vs.toArray) w:=by
  have hr:fn.results=fn.results.toList.toArray:=by simp
  rw [Cq,hr,List.mapM_toArray,aay]
  rw [show (List.toArray<$>List.mapM (GC tmps) fn.results.toList:Sem (Array Value)).run P w= .ok vs.toArray w by
   rw [map_eq_pure_bind,aay,k3];simp]
  simp
 refine ⟨_,?_,e⟩
 cases ds with
 |nil=>
  cases vs with
  |nil=>simp only [Ct];exact .aL rfl (fun i d v a=>by simp at a)
  |cons a b=>simp at k1
 |cons d ds=>
  cases ds with
  |nil=>
   cases vs with
   |nil=>simp at k1
   |cons a b=>
    cases b with
    |nil=>simp only [Ct];exact k2 0 d a rfl rfl
    |cons b c=>simp at k1
  |cons d2 ds=>
   cases vs with
   |nil=>simp at k1
   |cons a b=>
    cases b with
    |nil=>simp at k1
    |cons b c=>simp only [Ct];exact .aL (by simpa using k1) (fun i d v p q=>k2 i d v p (by simpa using q))
theorem ph {fn:Func} {tmps:Array Value} {R:Ending→World→Prop} {w0:eJ} {own:Nat→Option Nat} {σ:Nat→Ob} :∀(bs:List Nat) {M:MM} {w:World},ca w0 M own σ w→bs.Nodup→(∀b∈bs,M.fM b)→
  (∀(f:Nat→Prop) (w2:World),(∀b,M.fM b→b∉bs→f b)→ca w0 { M with fM:=f } own σ w2→∃v,(results fn tmps).run P w2= .ok v w2∧R (.returned v) w2)→
  LeavesInM Fence.wide 0 P fn tmps R (bs.map fun b=> { target:= .collected b,args:= #[] }) .returning w
 | [],M,w,hw,_,_,h=>h M.fM w (fun _ hb _=>hb) hw
 |b::bs,M,w,hw,hn,hb,h=>by
  obtain ⟨X5,XT⟩:=List.nodup_cons.1 hn
  refine ⟨fun e=>(by cases e),.inl ⟨b,_,rfl,run_takeDeferred (hw.fM b (hb b (by simp))).2,?_⟩⟩
  refine ph bs (hw.wh (hb b (by simp))) XT (fun c hc=>⟨hb c (by simp [hc]),fun e=>X5 (e▸hc)⟩) fun f w2 hf Vh=> ?_
  exact h f w2 (fun c hc hm=>hf c ⟨hc,fun e=>hm (by simp [e])⟩ (fun YK=>hm (by simp [YK]))) Vh
theorem vD {inl:FZ P ρ'} (Um:lq P inl) (hm:P.follows .mixedOrders=true) {f:FuncId} {fn:Func} (hf:P.funcs[f]? =some fn) (hn:(fn.name== "runtime.NumGoroutine")=false)
  {args:List D} {s:List Ob} {z:Z P} {K:D→List Ob→Z P→Option ρ'} (h:vE P inl fn args s z K=some r):∃d s' z',K d s' z'=some r∧(z'.c→z.c∧ak P f args s d s'):=by
 unfold vE at h
 split at h
 ·rename_i c hc
  obtain ⟨hle,h⟩:=bW h
  rw [gW] at h
  obtain ⟨ex,t',s',z',h1,h2⟩:=fN (rd:=false) Um hm c h
  have main:∀ {l},Cs P t' s' fn.results.toList=some l→(∀i,ex≠ .exit i)→bB P false c (args++List.replicate (fn.ntmps - args.length) .undef) s ex t' s'→ak P f args s (Ct l) s':=by
   intro l hl hex Ud
   refine ⟨⟨fn,c,hf,hc,hn⟩,Ud.len,?_⟩
   intro w0 M own w vs hw hu ha
   refine (callsIn_wide (n:=0)).1 (callsIn_of_wp_marks hf hc trivial (wpIn_mono (Ud.run none (fun _=>rfl) M.fM w0 M own w _ hw hu ?_ ⟨fun _ h=>h,[],rfl,List.nodup_nil,fun b hb=>by cases hb⟩) ?_))
   ·refine ha.append ⟨by simp [ha.1],fun i d v p q=> ?_⟩
    rw [List.getElem?_replicate] at p
    split at p
    ·obtain rfl:=aad p;exact .undef v
    ·cases p
   ·rintro e a' w' ⟨h0,M',TW,q1,q2,q3,q4,_,bs,b1,b2,b3⟩
    have fin:LeavesInM Fence.wide 0 P fn a'.tmps (fun e w'=> ∃v M' TW,e= .returned v∧ca w0 M' TW (bJ s') w'∧M'.upto s'.length∧M.Le M'∧b7 M' (Ct l) v) a'.defers .returning w':=by
     rw [b1]
     refine ph bs q1 b2 (fun b hb=>(b3 b hb).1) fun f w2 W8 Vh=> ?_
     have q4':cy { M' with fM:=f } t' a'.tmps:=⟨q4.1,fun i d v p q=>(q4.2 i d v p q).QL⟩
     obtain ⟨v,r1,r2⟩:=Ac Vh q4' hl
     exact ⟨v,r2,v,_,TW,rfl,Vh,⟨q2.1,q2.2⟩,⟨q3.cell,q3.box,q3.bX,fun b hb=>W8 b (q3.fM b hb) (fun hm=>(b3 b hm).2 hb)⟩,r1⟩
    cases ex with
    |exit i=>exact absurd rfl (hex i)
    |norm=>cases e<;>simp only [Ex.is] at h0;exact fin
    |ret=>cases e<;>simp only [Ex.is] at h0;exact fin
  split at h1
  ·cases h1
  ·rename_i hex
   split at h1
   ·rename_i l hl
    exact ⟨_,_,z',h1,fun c=>⟨(h2 c).1,main hl (fun i hi=>hex i hi) (h2 c).2⟩⟩
   ·cases h1
 ·cases h
theorem B1 {inl:FZ P ρ'} (Um:lq P inl) (hm:P.follows .mixedOrders=true) {id:Nat} {args:List D} {s:List Ob} {z:Z P} {K:D→List Ob→Z P→Option ρ'} (h:B2 P inl id args s z K=some r):
  ∃d s' z',K d s' z'=some r∧(z'.c→z.c∧yM P id args s d s'):=by
 unfold B2 at h
 split at h
 ·rename_i t ps ag bd hs
  obtain ⟨hle,h⟩:=bW h
  rw [aaG] at hle
  rw [gW] at h
  obtain ⟨ex,t2,s2,z1,h1,h2⟩:=fN (rd:=true) Um hm ag h
  split at h1
  ·split at h1
   ·rename_i t' YB YN YE XE
    rw [iT] at h1
    obtain ⟨ex2,t4,s4,z2,h3,h4⟩:=fN (rd:=true) Um hm bd h1
    split at h3
    ·rename_i t5 WQ Wu Wt Z6
     have main:∀(k:Lk) (j:Option Code),((ex2= .norm∧k= .ready∧j=none)∨(ex2= .ret∧k= .ret∧j=some .ret)∨∃i,ex2= .exit i∧k= .exit i∧j=some (.exit i))→
       bB P true ag (my t (ps.toList.zip args)) s .norm t2 s2→bB P true bd t2 (s2.set id (.lp .busy t' YB YN YE)) ex2 t4 s4→yM P id args s (.bool j.isNone) (s4.set id (.lp k t5 WQ Wu Wt)):=by
      intro k j ZA Xi Wa
      have WV:=Wa.len
      rw [aa1] at WV
      refine ⟨by rw [aa1];exact abu Xi.len WV,?_⟩
      intro w0 M own w vs l hw hu ha hb
      obtain ⟨l',rc,q⟩:=hw.lp id _ _ _ _ _ hs
      obtain rfl:l'=l:=by have:=q.box;rw [hb] at this;exact (aad this).symm
      have T8:vs.size=rc.params.size:=by rw [← ha.1,hle,q.ps]
      refine ⟨_,_,_,_,run_yield q.dI T8,?_⟩
      have htm:cy M (my t (ps.toList.zip args)) ((rc.params.zip vs).foldl (fun tmps (x:Nat×Value)=>tmps.setIfInBounds x.1 x.2) rc.tmps):=by
       have:=cy.my (ps:=ps.toList) (args:=args) (vs:=vs.toList) q.tm (by rw [ha.1];simp) (fun i d v p u=>ha.2 i d v p (by simpa using u))
       rw [q.ps,← Array.foldl_toList,Array.toList_zip]
       exact this
      refine roundIn_of_wpIn (F:=Fence.wide) (n:=0) trivial ?_
      rw [q.ag,q.bd]
      refine wpIn_mono (Xi.run (some l') (fun e=>by cases e) M.fM w0 M own w _ hw hu htm ⟨fun _ h=>h,[],rfl,List.nodup_nil,fun b hb=>by cases hb⟩) ?_
      rintro e a1 w1 ⟨h0,M1,own1,q1,q2,q3,q4,q5⟩
      cases e<;>simp only [Ex.is] at h0
      obtain ⟨l1,rc1,p1⟩:=q1.lp id _ _ _ _ _ XE
      obtain rfl:l1=l':=by have:=p1.box;rw [q3.box _ _ hb] at this;exact (aad this).symm
      have WC:=hZ (s:=s2) (i:=id) (by rw [XE];simp)
      have Vh:=q1.Jx (k':= .busy) (r':= { rc1 with state:= .busy }) p1 (.lp .busy t' YB YN YE) (.inr ⟨rfl,rfl,fun e=>absurd rfl e,rfl,rfl,rfl,rfl⟩)
      rw [← mu WC] at Vh
      refine ⟨_,run_beginRound p1.dI p1.st,?_⟩
      refine wpIn_mono (Wa.run (some l1) (fun e=>by cases e) M.fM w0 M1 own1 _ a1 Vh (by rw [aa1];exact q2) q4 q5) ?_
      rintro e2 a2 w3 ⟨XZ,M2,U4,u1,u2,u3,u4,u5⟩
      obtain ⟨l2,rc2,p2⟩:=u1.lp id _ _ _ _ _ Z6
      obtain rfl:l2=l1:=by have:=p2.box;rw [u3.box _ _ (q3.box _ _ hb)] at this;exact (aad this).symm
      have YY:=hZ (s:=s4) (i:=id) (by rw [Z6];simp)
      have Yq:=u1.Jx (k':=k) (r':= { rc2 with state:=if j.isNone then .ready else .done,pending:=j }) p2 (.lp k t5 WQ Wu Wt) (.inr ⟨rfl,by
       rcases ZA with ⟨_,rfl,rfl⟩|⟨_,rfl,rfl⟩|⟨i,_,rfl,rfl⟩<;>rfl,fun _=>by
       rcases ZA with ⟨_,rfl,rfl⟩|⟨_,rfl,rfl⟩|⟨i,_,rfl,rfl⟩<;>rfl,rfl,rfl,rfl,rfl⟩)
      rw [← mu YY] at Yq
      have fin:∃v w',(Instr.endRound l2 j).run P w3= .ok v w'∧∃v' M' TW,Ending.returned v= .returned v'∧ca w0 M' TW (bJ (s4.set id (.lp k t5 WQ Wu Wt))) w'∧M'.upto (s4.set id (.lp k t5 WQ Wu Wt)).length∧M.Le M'∧b7 M' (.bool j.isNone) v':=
       ⟨_,_,run_endRound j p2.dI,_,M2,U4,rfl,Yq,by rw [aa1];exact u2,q3.trans u3,.bool _⟩
      rcases ZA with ⟨rfl,rfl,rfl⟩|⟨rfl,rfl,rfl⟩|⟨i,rfl,rfl,rfl⟩
      ·cases e2<;>simp only [Ex.is] at XZ
       exact fin
      ·cases e2<;>simp only [Ex.is] at XZ
       exact fin
      ·cases e2<;>simp only [Ex.is] at XZ
       subst XZ
       exact fin
     split at h3
     ·rw [iT] at h3
      exact ⟨_,_,z2,h3,fun c=>⟨(h2 (h4 c).1).1,main .ready none (.inl ⟨rfl,rfl,rfl⟩) (h2 (h4 c).1).2 (h4 c).2⟩⟩
     ·rw [iT] at h3
      exact ⟨_,_,z2,h3,fun c=>⟨(h2 (h4 c).1).1,main .ret (some .ret) (.inr (.inl ⟨rfl,rfl,rfl⟩)) (h2 (h4 c).1).2 (h4 c).2⟩⟩
     ·rename_i i
      rw [iT] at h3
      exact ⟨_,_,z2,h3,fun c=>⟨(h2 (h4 c).1).1,main (.exit i) (some (.exit i)) (.inr (.inr ⟨i,rfl,rfl,rfl⟩)) (h2 (h4 c).1).2 (h4 c).2⟩⟩
    ·cases h3
   ·cases h1
  ·cases h1
 ·cases h
theorem jl (hm:P.follows .mixedOrders=true):∀n:Nat,lq P (sT (ρ:=ρ') P n)
 |0=>fun g args s z K r h=>by simp [sT] at h
 |n+1=>fun g args s z K r h=>by
  rw [sT] at h
  simp only [] at h
  cases g with
  |fn f=>
   simp only [] at h
   split at h
   ·rename_i fn hf
    obtain ⟨hn,h⟩:=bW h
    exact vD (jl hm n) hm hf (by simpa using hn) h
   ·cases h
  |yl id=>
   simp only [] at h
   exact B1 (jl hm n) hm h
end
section
variable {P:Program}
theorem qu {M:MM} {s:List Ob} {d:D} {v:Value} (h:b7 M d v) (hc:d.clean=true):b7 (gr M.cell) (kz s d) v:=by
 unfold kz
 split
 ·rename_i id ver sz xs
  have h1:=h.pF hc
  have:∀o:ln,(o= .no∨∃k,o= .fresh k)→b7 (gr M.cell) (.aY o sz xs) v:=by
   intro o ho
   cases h1 with
   |aY b off vs hl TZ ha T8 Uu hr T5 _=>exact .aY b off vs hl TZ ha T8 Uu hr T5 (by rcases ho with rfl|⟨k,rfl⟩<;>trivial)
  split
  ·split
   ·exact this _ (.inr ⟨_,rfl⟩)
   ·exact this _ (.inl rfl)
  ·exact this _ (.inl rfl)
 ·exact h.pF hc
theorem yp {d:D} {sz Ug:Nat} {xs:List D} :d.bg≠ .aY (.fresh sz) Ug xs:=by
 intro h
 cases d<;>simp only [D.bg,reduceCtorEq] at h
 case aY o _ _=>cases o<;>simp [ln.bg] at h
theorem nJ {w0:eJ} (hX:∀b,¬w0.X b→w0.w.heap.size≤b) {M:MM} {own:Nat→Option Nat} {w:World} {s:List Ob} (hw:ca w0 M own (bJ s) w) {d:D} {v:Value} (h:b7 M d v) {sz Ug:Nat} {xs:List D} (e:kz s d= .aY (.fresh sz) Ug xs):
  ∃a len cap,v= .slice a len cap∧Ug=sz∧jV w0.w.heap.size w M.cell sz a len cap:=by
 unfold kz at e
 split at e
 ·rename_i id ver Zl Y9
  split at e
  ·rename_i v' UX hs
   split at e
   ·rename_i hb
    simp only [aae,aaG] at hb
    obtain ⟨rfl,rfl⟩:=hb
    simp only [D.aY.injEq,ln.fresh.injEq] at e
    obtain ⟨rfl,rfl,rfl⟩:=e
    obtain ⟨a,len,cap,k⟩:=hw.dD id ver Zl hs
    cases h with
    |aY b off vs hl TZ ha T8 Uu hr T5 ho=>
     have:M.bX id ver=some _:=ho
     rw [k.bX] at this
     obtain ⟨rfl,rfl,rfl⟩:=Value.slice.inj (aad this)
     refine ⟨_,_,_,rfl,rfl,?_⟩
     rcases k.room with q|⟨b,vs,ty,fz,q,r⟩
     ·exact .inl q
     ·exact .inr ⟨b,vs,ty,fz,q,hX _ r.base,r.dI,r.fz,r.cap,r.none⟩
   ·cases e
  ·cases e
 ·exact absurd e yp
theorem JT {w0:eJ} (hX:∀b,¬w0.X b→w0.w.heap.size≤b) {M:MM} {own:Nat→Option Nat} {w:World} {s:List Ob} (hw:ca w0 M own (bJ s) w) {d:D} {v:Value} (h:b7 M d v) (hc:d.clean=true):b7 (gr M.cell) (GV s d) v∧Es w0.w.heap.size w M.cell (GV s d) v:=by
 by_cases ht:∃ds,d= .aL ds
 ·obtain ⟨ds,rfl⟩:=ht
  cases h with
  |aL hl r=>
   rename_i vs
   rw [D.clean,D.jT,aaO] at hc
   refine ⟨.aL (by simpa using hl) ?_,?_,?_⟩
   ·intro i d v a b
    rw [aau,aat] at a
    obtain ⟨d0,h0,rfl⟩:=a
    exact qu (r i d0 v h0 b) (hc _ (aaD h0))
   ·intro sz Ug xs e;simp [GV] at e
   ·intro YR vs' e1 e2 i sz Ug xs hi
    simp only [GV,D.aL.injEq] at e1
    obtain rfl:=Value.tuple.inj e2
    subst e1
    rw [aau,aat] at hi
    obtain ⟨d0,h0,e⟩:=hi
    have T1:i<vs.size:=by
     rw [← hl]
     rcases aaA i ds.length with q|q
     ·exact q
     ·rw [aam q] at h0;cases h0
    obtain ⟨a,len,cap,k1,k2,k3⟩:=nJ hX hw (r i d0 vs[i] h0 (by simp [T1])) e
    exact ⟨a,len,cap,by simp [T1,k1],k2,k3⟩
 ·have e:GV s d=kz s d:=by
   cases d<;>first|rfl|exact absurd ⟨_,rfl⟩ ht
  rw [e]
  refine ⟨qu h hc,fun sz Ug xs q=>nJ hX hw h q,fun ds vs q=> ?_⟩
  exfalso
  unfold kz at q
  split at q
  ·split at q
   ·split at q<;>cases q
   ·cases q
  ·cases d<;>simp only [D.bg,reduceCtorEq] at q
   exact ht ⟨_,rfl⟩
theorem aP.ai (hm:P.follows .mixedOrders=true) {f:FuncId} {fn:Func} (hf:P.funcs[f]? =some fn) (hn:(fn.name== "runtime.NumGoroutine")=false) {args:List D} {d:D} (o:List (Ev P))
  (h:ym P fn args o=some (d,sj o True):=by kernel_rfl):aP P f args d:=by
 unfold ym at h
 obtain ⟨d0,s',z',h1,h2⟩:=vD (jl hm 20) hm hf hn h
 obtain ⟨hc,h1⟩:=bW h1
 split at h1
 ·simp only [aak,abe] at h1
  obtain ⟨rfl,hz⟩:=h1
  have Ud:=(h2 (by rw [hz];exact lC o trivial)).2
  refine ⟨Ud.Ij,fun w C vs hC ha=>Calls.mono (Ud.run ⟨w,C,fun k=>k<w.heap.size⟩ (gr C) (fun _=>none) w vs ?_ ⟨fun _ _=>rfl,fun _ _ _=>rfl⟩ ha) ?_⟩
  ·refine ⟨.of _,hC,?_,?_,?_,?_,?_,?_,fun b hb=>hb.elim⟩
   ·intro b o v k _;exact k
   ·intro b i k;cases k
   ·intro i cs k;simp [bJ] at k
   ·intro i v sz k;simp [bJ] at k
   ·intro i F q;simp [bJ,Ob.C4] at q
   ·intro i k t ps ag bd q;simp [bJ] at q
  ·rintro e w' ⟨v,M',TW,rfl,q1,q2,q3,q4⟩
   obtain ⟨r1,r2⟩:=JT (fun _ h=>Nat.le_of_not_lt h) q1 q4 hc
   exact ⟨v,M'.cell,rfl,⟨q1.below.below,q3.cell,q1.mj,q1.cells⟩,r1,r2⟩
 ·cases h1
theorem aP.cast {f:FuncId} {args Xj:List D} {d d':D} (h:aP P f args d) (ha:args=Xj) (hd:d=d'):aP P f Xj d':=ha▸hd▸h
theorem l4.ai (hm:P.follows .mixedOrders=true) {c:Code} {t:List D} {s:List Ob} {ex:Ex} {t':List D} {s':List Ob} (o:List (Ev P))
  (h:evalCode P c t s o=some ((ex,t',s'),sj o True)):l4 P c t s ex t' s':=by
 unfold evalCode at h
 obtain ⟨YL,t1,s1,z',h1,h2⟩:=fN (rd:=true) (jl hm 20) hm c h
 split at h1
 ·simp only [aak,abe] at h1
  obtain ⟨⟨rfl,rfl,rfl⟩,hz⟩:=h1
  exact (h2 (by rw [hz];exact lC o trivial)).2
 ·cases h1
structure aB (P:Program) (c:Code) (sp:HS) (n0:Nat) (t:List D) (s:List Ob) (ex:Ex) (t':List D) (s':List Ob):Prop where
  run:∃t1 s1,l4 P c t s ex t1 s1∧pj sp n0 t1 s1=some (t',s')∧sV sp t1 s1
theorem aB.ai (hm:P.follows .mixedOrders=true) {c:Code} {sp:HS} {n0:Nat} {t:List D} {s:List Ob} {ex:Ex} {t':List D} {s':List Ob} (o:List (Ev P))
  (h:vx P c sp n0 t s o=some ((ex,t',s'),sj o True):=by kernel_rfl):aB P c sp n0 t s ex t' s':=by
 unfold vx at h
 obtain ⟨YL,t1,s1,z',h1,h2⟩:=fN (rd:=true) (jl hm 20) hm c h
 split at h1
 ·rename_i t2 s2 hh
  obtain ⟨z2,h3,h4⟩:=pz h1
  split at h3
  ·simp only [aak,abe] at h3
   obtain ⟨⟨rfl,rfl,rfl⟩,hz⟩:=h3
   have Wc:=h4 (by rw [hz];exact lC o trivial)
   exact ⟨t1,s1,(h2 Wc.1).2,hh,Wc.2⟩
  ·cases h3
 ·cases h1
theorem aB.piece {c:Code} {sp:HS} {n0:Nat} {t t':List D} {s s':List Ob} {ex:Ex} (hn:n0≤s.length) (h:aB P c sp n0 t s ex t' s'):b5 P n0 c t s ex t' s':=by
 obtain ⟨t1,s1,h1,h2,h3⟩:=h.run
 obtain ⟨hl,hhead⟩:=nq h2 h3
 refine ⟨fun rr K w0 M own w a hw hu ht hd=> ?_,hl.1⟩
 refine wpIn_mono (h1.run rr (fun e=>by cases e) K w0 M own w a hw hu ht hd) ?_
 rintro e a' w' ⟨h0,M1,own1,q1,q2,q3,q4,q5⟩
 obtain ⟨M2,U4,r1,r2,r3,r4⟩:=hhead (abu hn h1.len) q1 q2 q4
 exact ⟨h0,M2,U4,r1,r2,(MM.mO q3 n0).trans r3,r4,q5.mono r3.fM⟩
theorem bL.iw {c:Code} {sp:HS} {n0:Nat} {t t2:List D} {s s2:List Ob} {ex:Ex} {t':List D} {s':List Ob} (h:aB P c sp n0 t s .norm t2 s2) (k:bL P c n0 t2 s2 ex t' s'):bL P c n0 t s ex t' s':=
 let ⟨_,_,h1,h2,h3⟩:=h.run
 .again sp h1 h2 h3 k
theorem bL.last {c:Code} {sp:HS} {n0:Nat} {t:List D} {s:List Ob} {ex:Ex} {t':List D} {s':List Ob} (h:aB P c sp n0 t s ex t' s') (hx:ex≠ .norm):bL P c n0 t s ex t' s':=
 let ⟨_,_,h1,h2,h3⟩:=h.run
 .out sp h1 hx h2 h3
def qH (aU:List Nat):Nat→List Ob→List Ob
  |_,[]=> []
  |i,o::r=>(match jy i aU with|true=>o|false=> .dead)::qH aU (i+1) r
def Bh (P:Program) (g:FuncId) (args:List D) (s:List Ob) (aU:List Nat) (o:List (Ev P)):Option ((D×List Ob)×Prop):=
  sT P 20 (.fn g) args s ⟨o,True⟩ fun d s' z=>match z.o with| []=>some ((d,qH aU 0 s'),z.c)|_=>none
theorem qk (aU:List Nat):∀(s:List Ob) (i:Nat),(qH aU i s).length=s.length
 | [],_=>rfl
 |o::r,i=>by simp [qH,qk aU r]
theorem Bo (aU:List Nat):∀(s:List Ob) (i k:Nat),(qH aU i s).getD k .dead=s.getD k .dead∨(qH aU i s).getD k .dead= .dead
 | [],_,_=> .inl rfl
 |o::r,i,0=>by
  simp only [qH,List.getD_cons_zero]
  split
  ·exact .inl rfl
  ·exact .inr rfl
 |o::r,i,k+1=>by simp only [qH,List.getD_cons_succ];exact Bo aU r (i+1) k
theorem ca.sub {w0:eJ} {M:MM} {own:Nat→Option Nat} {σ σ':Nat→Ob} {w:World} (h:ca w0 M own σ w) (hs:∀i,σ' i=σ i∨σ' i= .dead):ca w0 M own σ' w:=by
 have Uf:∀ {i:Nat} {o:Ob},σ' i=o→o≠ .dead→σ i=o:=fun {i o} e hn=>by
  rcases hs i with q|q
  ·rw [← q];exact e
  ·exact absurd (e▸q:o= .dead) hn
 exact ⟨h.below,h.cells,h.mj,h.owned,fun i cs e=>h.box i cs (Uf e (by simp)),fun i v sz e=>h.dD i v sz (Uf e (by simp)),(fun i F e=>(hs i).elim (fun q=>h.mp i F (by rw [← q];exact e)) (fun q=>by rw [q] at e;cases e)),
  fun i k t ps ag bd e=>h.lp i k t ps ag bd (Uf e (by simp)),h.fM⟩
theorem ak.ai (hm:P.follows .mixedOrders=true) {g:FuncId} {args:List D} {s:List Ob} {d:D} {s':List Ob} {aU:List Nat} (o:List (Ev P))
  (h:Bh P g args s aU o=some ((d,s'),sj o True):=by kernel_rfl):ak P g args s d s':=by
 unfold Bh at h
 obtain ⟨d1,s1,z',h1,h2⟩:=jl hm 20 (.fn g) args s _ _ _ h
 split at h1
 ·simp only [aak,abe] at h1
  obtain ⟨⟨rfl,rfl⟩,hz⟩:=h1
  have Ud:ak P g args s d1 s1:=(h2 (by rw [hz];exact lC o trivial)).2
  refine ⟨Ud.Ij,by rw [qk];exact Ud.len,fun w0 M own w vs hw hu ha=>Calls.mono (Ud.run w0 M own w vs hw hu ha) ?_⟩
  rintro e w' ⟨v,M',TW,rfl,q1,q2,q3,q4⟩
  exact ⟨v,M',TW,rfl,q1.sub (fun i=>Bo aU s1 0 i),by rw [qk];exact q2,q3,q4⟩
 ·cases h1
theorem ak.cast {g:FuncId} {args:List D} {s:List Ob} {d d':D} {s1 s2:List Ob} (h:ak P g args s d s1) (h1:d=d') (h2:s1=s2):ak P g args s d' s2:=h1▸h2▸h
end
variable {P:Program}
def QY (s:List Ob) (id sz n:Nat):Option D:=match s.getD id .dead with
  | .box cs=>match Nat.beq cs.length (n*sz)&&cs.all D.clean&&cs.all (fun c=>storable c.bg) with
    |true=>some (.aY .no sz (rows sz n (cs.map D.bg)))
    |false=>none
  |_=>none
def Q0 (P:Program) (fn:Func) (args:List D) (o:List (Ev P)):Option (D×Prop):=
  vE P (sT P 20) fn args [] ⟨o,True⟩ fun d s z=>match d with
    | .aL (.dm id sz n::r)=>match QY s id sz n with
      |some x=>jm (r.all D.clean) (match z.o with| []=>some (.aL (x::r.map D.bg),z.c)|_=>none)
      |none=>none
    |_=>none
def QZ (P:Program) (fn:Func) (args:List D) (o:List (Ev P)):Option ((D×List Ob)×Prop):=
  vE P (sT P 20) fn args [] ⟨o,True⟩ fun d s z=>match z.o with| []=>some ((d,s),z.c)|_=>none
def TB (s:List Ob) (d:D):Option D:=match d with
  | .aL (.dm id sz n::r)=>match QY s id sz n with
    |some x=>some (.aL (x::r.map D.bg))
    |none=>none
  |_=>none
end Go.Ev
