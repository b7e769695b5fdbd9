import Derived.LoopN
import Derived.LoopNIn
import Derived.Scope
import Derived.RangeFuncRecord
import Derived.Test.YtbfpahigdpigpaaGreatC02
import Derived.Test.YtbfpahigdpigpaaGreatC03
open Option.some renaming inj→SE,injEq→SL
open Bool renaming and_eq_true→SG,or_eq_true→Tz,not_eq_true'→TE
open List renaming getD_eq_getElem?_getD→SK,getElem?_eq_none→SN,length_append→SS,getElem?_map→SW,mem_of_getElem? →Tb,all_eq_true→Td,length_set→Tj,getElem?_cons_zero→TA,getElem?_cons_succ→TH,mem_cons→TJ
open Nat renaming le_refl→SP,lt_or_ge→SY,beq_eq→S8,zero_add→Ti,ble_eq→TF,ble→TN,blt_eq→TQ
open Option renaming map_eq_some_iff→SU,bind_some→T4
open Go.Sem renaming run_bind→SZ,run_pure→S9
open Prod.mk renaming injEq→TG
/- Contracts and plain laws that a statement's proof leans on (texts merged:EvQ,EvP). -/
set_option linter.unusedVariables false
set_option linter.unusedSimpArgs false
namespace Go.Ev
open Go Go.RowKit
theorem jU {i:Nat} :∀ {l:List Nat},iE i l=true↔i∈l
 | []=>by simp [iE]
 |a::r=>by
  unfold iE
  split
  ·rename_i h;rw [S8] at h;subst h;simp
  ·rename_i h
   rw [jU]
   have:a≠i:=fun e=>by subst e;simp at h
   simp [Ne.symm this]
theorem MM.nD {M M':MM} (h:M.Le M') (n:Nat):(M.cut n).Le (M'.cut n):=by
 refine ⟨h.cell,fun i b k=> ?_,fun i v b k=> ?_,h.eB⟩
 ·simp only [MM.cut] at k ⊢
  split at k
  ·rename_i q;rw [if_pos q];exact h.box _ _ k
  ·cases k
 ·simp only [MM.cut] at k ⊢
  split at k
  ·rename_i q;rw [if_pos q];exact h.bl _ _ _ k
  ·cases k
theorem MM.vz {M:MM} {n:Nat} :((M.cut n).cut n)=M.cut n:=by
 unfold MM.cut
 congr 1
 ·funext i;by_cases h:i<n<;>simp [h]
 ·funext i v;by_cases h:i<n<;>simp [h]
theorem MM.IE {M:MM} {n:Nat} (h:M.upto n):M.Le (M.cut n):=by
 refine ⟨fun _ _ _ h=>h,fun i b k=> ?_,fun i v b k=> ?_,fun _ h=>h⟩
 ·simp only [MM.cut]
  split
  ·exact k
  ·rw [h.1 i (by omega)] at k;cases k
 ·simp only [MM.cut]
  split
  ·exact k
  ·rw [h.2 i v (by omega)] at k;cases k
theorem jd (n:Nat):∀l:List D,kG n l=l.all (mH n)
 | []=>by simp [kG]
 |d::r=>by simp [kG,jd n r]
theorem bk.cut {M:MM} {d:D} {v:Value} (h:bk M d v):∀ {n:Nat},mH n d=true→bk (M.cut n) d v:=by
 induction h with
 |undef v=>exact fun _=> .undef v
 |int k n=>exact fun _=> .int k n
 |bool b=>exact fun _=> .bool b
 |str s=>exact fun _=> .str s
 |eL=>exact fun _=> .eL
 |ptr q h=>intro n c;simp only [mH,TQ] at c;exact .ptr q (by simp only [MM.cut,c,if_true];exact h)
 |dG q vs hx hc hr ih=>intro n c;exact .dG q vs hx hc hr
 |cB h=>intro n c;simp only [mH,TQ] at c;exact .cB (by simp only [MM.cut,c,if_true];exact h)
 |hE h=>intro n c;simp only [mH,TQ] at c;exact .hE (by simp only [MM.cut,c,if_true];exact h)
 |cS h hh hc=>intro n c;simp only [mH,TQ] at c;exact .cS (by simp only [MM.cut,c,if_true];exact h) (by simp only [MM.cut,c,if_true];exact hh) hc
 |sub h hc hp ho=>intro n c;simp only [mH,TQ] at c;exact .sub (by simp only [MM.cut,c,if_true];exact h) hc hp ho
 |aj b off vs hl LH ha LR hc hr LL ho ih=>
  intro n c
  refine .aj b off vs hl LH ha LR hc hr LL ?_
  rename_i M o _ _ _ _ _
  cases o with
  |tok t v=>simp only [mH,TQ] at c;simp only [MM.od,MM.cut,c,if_true];exact ho
  |no=>trivial
  |fresh k=>trivial
  |tight=>exact ho
 |aq=>exact fun _=> .aq
 |fn h1 h2 r1 r2 i1 i2=>
  intro n c
  rw [mH,jd,jd,SG,Td,Td] at c
  exact .fn h1 h2 (fun i d v a b=>i1 i d v a b (c.1 _ (Tb a))) (fun i d v a b=>i2 i d v a b (c.2 _ (Tb a)))
 |agg h r ih=>
  intro n c
  rw [mH,jd,Td] at c
  exact .agg h (fun i d v a b=>ih i d v a b (c _ (Tb a)))
 |aC h r ih=>
  intro n c
  rw [mH,jd,Td] at c
  exact .aC h (fun i d v a b=>ih i d v a b (c _ (Tb a)))
theorem ou {s:List Ob} {size id:Nat} {d d':D} {o:Option Nat} {ob:Ob} (h:qW s size id d=some (d',o,ob)):
  (∃fl sz xs,d= .aj fl sz xs∧d'= .aj (.tok id 0) size xs∧ob= .bO 0 size∧(sz=size∨xs= [])∧((fl= .tight∧o=none)∨∃i v,fl= .tok i v∧o=some i∧s.getD i .dead= .bO v size))∨
  (∃i n cs,d= .cS i size n∧d'= .cS id size n∧o=some i∧s.getD i .dead= .box cs∧ob= .box (cs.map D.aR)):=by
 unfold qW at h
 split at h
 ·rename_i sz xs
  split at h
  ·rename_i hk
   simp only [SL,TG] at h
   obtain ⟨rfl,rfl,rfl⟩:=h
   simp only [pk,Tz,S8,List.isEmpty_iff] at hk
   exact .inl ⟨_,sz,xs,rfl,rfl,rfl,hk,.inl ⟨rfl,rfl⟩⟩
  ·cases h
 ·rename_i i v sz xs
  split at h
  ·rename_i v' Ng hs
   split at h
   ·rename_i hk
    simp only [SL,TG] at h
    obtain ⟨rfl,rfl,rfl⟩:=h
    simp only [pk,Tz,SG,S8,List.isEmpty_iff] at hk
    obtain ⟨rfl,rfl,hk⟩:=hk
    exact .inl ⟨_,sz,xs,rfl,rfl,rfl,hk,.inr ⟨i,v',rfl,rfl,hs⟩⟩
   ·cases h
  ·cases h
 ·rename_i i sz n
  split at h
  ·rename_i cs hs
   split at h
   ·rename_i hk
    rw [S8] at hk
    subst hk
    simp only [SL,TG] at h
    obtain ⟨rfl,rfl,rfl⟩:=h
    exact .inr ⟨i,n,cs,rfl,rfl,rfl,hs,rfl⟩
   ·cases h
  ·cases h
 ·cases h
theorem sZ {t:List D} {s:List Ob} :∀ {fs:List (Nat×Nat)} {id:Nat} {used:List (Option Nat)} {new:List Ob},w7 t s fs id=some (used,new)→
  (used.length=fs.length∧new.length=fs.length)∧∀(j k size:Nat),fs[j]? =some (k,size)→∃d' o ob,qW s size (id+j) (hI t s k)=some (d',o,ob)∧used[j]? =some o∧new[j]? =some ob
 | [],id,used,new,h=>by
  simp only [w7,SL,TG] at h
  obtain ⟨rfl,rfl⟩:=h
  exact ⟨⟨rfl,rfl⟩,fun j k size h=>by simp at h⟩
 |(k,size)::r,id,used,new,h=>by
  simp only [w7] at h
  split at h
  ·rename_i d' o ob l Im h1 h2
   simp only [SL,TG] at h
   obtain ⟨rfl,rfl⟩:=h
   obtain ⟨k1,k2⟩:=sZ h2
   refine ⟨by simp [k1.1,k1.2],fun j k' QD hj=> ?_⟩
   cases j with
   |zero=>
    simp only [TA,SL,TG] at hj
    obtain ⟨rfl,rfl⟩:=hj
    exact ⟨d',o,ob,h1,rfl,rfl⟩
   |succ j=>
    simp only [TH] at hj
    obtain ⟨d2,o2,ob2,q1,q2,q3⟩:=k2 j k' QD hj
    exact ⟨d2,o2,ob2,by rw [show id+(j+1)=id+1+j by omega];exact q1,by simpa using q2,by simpa using q3⟩
  ·cases h
theorem oE {i:Nat} :∀ {fs:List (Nat×Nat)} {id NW size:Nat},findF i fs id=some (NW,size)→∃j,NW=id+j∧fs[j]? =some (i,size)
 | [],id,NW,size,h=>by simp [findF] at h
 |(k,sz)::r,id,NW,size,h=>by
  simp only [findF] at h
  split at h
  ·rename_i hk
   rw [S8] at hk
   simp only [SL,TG] at h
   obtain ⟨rfl,rfl⟩:=h
   exact ⟨0,rfl,by simp [hk]⟩
  ·obtain ⟨j,h1,h2⟩:=oE h
   exact ⟨j+1,by omega,by simpa using h2⟩
theorem CV {i:Nat} {fs:List (Nat×Nat)} {n0 id size:Nat} (h:Fw i fs n0=some (id,size)):i<dk∧findF i fs n0=some (id,size):=by
 unfold Fw at h
 split at h
 ·cases h
 ·rename_i hb
  refine ⟨?_,h⟩
  rcases SY i dk with q|q
  ·exact q
  ·rw [Nat.ble_eq_true_of_le q] at hb;cases hb
theorem CW {i j:Nat} {fs:List (Nat×Nat)} {n0 id size:Nat} (h:AV i j fs n0=some (id,size)):j<1000∧findF (dk+i*1000+j) fs n0=some (id,size):=by
 unfold AV at h
 split at h
 ·rename_i hb
  exact ⟨by rw [TQ] at hb;exact hb,h⟩
 ·cases h
theorem qh {sp:HS} {n0:Nat} {s:List Ob} :∀ {t:List D} {i:Nat} {t':List D},qi sp n0 s i t=some t'→
  t'.length=t.length∧∀k d d',t[k]? =some d→t'[k]? =some d'→DQ sp n0 s (i+k) d=some d'
 | [],i,t',h=>by
  simp only [qi,SL] at h
  subst h
  exact ⟨rfl,fun k d d' h=>by simp at h⟩
 |d::r,i,t',h=>by
  simp only [qi] at h
  split at h
  ·rename_i d1 l h1 h2
   obtain rfl:=SE h
   obtain ⟨k1,k2⟩:=qh h2
   refine ⟨by simp [k1],fun k d2 d3 a b=> ?_⟩
   cases k with
   |zero=>simp at a b;subst a b;exact h1
   |succ k=>
    simp at a b
    rw [show i+(k+1)=i+1+k by omega]
    exact k2 k d2 d3 a b
  ·cases h
theorem rK {sp:HS} {n0:Nat} {s:List Ob} {i:Nat} :∀ {cs:List D} {j:Nat} {My:List D},oJ sp n0 s i j cs=some My→
  My.length=cs.length∧∀(k:Nat) (d d':D),cs[k]? =some d→My[k]? =some d'→(∃id size o ob,AV i (j+k) sp.mj n0=some (id,size)∧qW s size id d=some (d',o,ob))∨(mH n0 d=true∧d'=d)
 | [],j,My,h=>by
  simp only [oJ,SL] at h
  subst h
  exact ⟨rfl,fun k d d' h=>by simp at h⟩
 |a::r,j,My,h=>by
  rw [oJ] at h
  split at h
  ·rename_i d1 l h1 h2
   obtain rfl:=SE h
   obtain ⟨k1,k2⟩:=rK h2
   refine ⟨by simp [k1],fun k d d' p q=> ?_⟩
   cases k with
   |zero=>
    simp at p q
    subst p q
    split at h1
    ·rename_i id size hf
     split at h1
     ·rename_i d2 o hg
      obtain rfl:=SE h1
      exact .inl ⟨id,size,o.1,o.2,hf,hg⟩
     ·cases h1
    ·split at h1
     ·rename_i Nc
      exact .inr ⟨Nc,(SE h1).symm⟩
     ·cases h1
   |succ k=>
    simp at p q
    rw [show j+(k+1)=j+1+k by omega]
    exact k2 k d d' p q
  ·cases h
theorem wM {sp:HS} {n0:Nat} {s0:List Ob} {used:List (Option Nat)} {new:List Ob} :∀ {n i:Nat} {s s':List Ob},Cm sp n0 s0 used new n i s=some s'→
  ∃l,s'=l++new∧l.length=n∧∀k o,l[k]? =some o→∃o0,s[k]? =some o0∧Kb sp n0 s0 used (i+k) o0=some o
 |0,i,s,s',h=>by
  simp only [Cm,SL] at h
  exact ⟨[],by simp [h],rfl,fun k o h=>by simp at h⟩
 |n+1,i,[],s',h=>by simp [Cm] at h
 |n+1,i,o::r,s',h=>by
  simp only [Cm] at h
  split at h
  ·rename_i o' l h1 h2
   obtain rfl:=SE h
   obtain ⟨l',rfl,k2,k3⟩:=wM h2
   refine ⟨o'::l',rfl,by simp [k2],fun k o2 hk=> ?_⟩
   cases k with
   |zero=>simp at hk;subst hk;exact ⟨o,rfl,h1⟩
   |succ k=>
    simp at hk
    obtain ⟨o0,q1,q2⟩:=k3 k o2 hk
    exact ⟨o0,by simpa using q1,by rw [show i+(k+1)=i+1+k by omega];exact q2⟩
  ·cases h
theorem nv {i:Nat} :∀ {l:List (Option Nat)},sm i l=true↔some i∈l
 | []=>by simp [sm]
 |none::r=>by simp [sm,nv]
 |some a::r=>by
  unfold sm
  split
  ·rename_i h;rw [S8] at h;subst h;simp
  ·rename_i h
   rw [nv]
   have:a≠i:=fun e=>by subst e;simp at h
   simp [Ne.symm this]
def j7 (i:Nat):List (Option Nat)→Nat→Option Nat
  | [],_=>none
  |none::r,id=>j7 i r (id+1)
  |some a::r,id=>if a=i then some id else j7 i r (id+1)
theorem gE {i:Nat} :∀ {l:List (Option Nat)} {id:Nat},some i∉l→j7 i l id=none
 | [],id,_=>rfl
 |none::r,id,h=>by simp only [j7];exact gE (by simpa using h)
 |some a::r,id,h=>by
  simp only [TJ,SL,not_or] at h
  simp only [j7,if_neg (Ne.symm h.1)]
  exact gE h.2
theorem lO {i:Nat} :∀ {l:List (Option Nat)} {id j:Nat},tp l=true→l[j]? =some (some i)→j7 i l id=some (id+j)
 | [],id,j,_,h=>by simp at h
 |none::r,id,j,hd,h=>by
  simp only [tp] at hd
  simp only [j7]
  cases j with
  |zero=>simp at h
  |succ j=>rw [show id+(j+1)=id+1+j by omega];exact lO hd (by simpa using h)
 |some a::r,id,j,hd,h=>by
  simp only [tp,SG,TE] at hd
  simp only [j7]
  cases j with
  |zero=>simp at h;simp [h]
  |succ j=>
   have hm:some i∈r:=Tb (by simpa using h)
   have:a≠i:=fun e=>by subst e;rw [nv.2 hm] at hd;simp at hd
   rw [if_neg this,show id+(j+1)=id+1+j by omega]
   exact lO hd.2 (by simpa using h)
def qT (sp:HS) (t:List D) (s:List Ob):Prop:= ∀cs∈ve sp t s,∀c∈cs,c.clean=true
theorem mI {s:List Ob} {i:Nat} {cs:List D} (h:s.getD i .dead= .box cs):∀ {l:List Nat},iE (dk+i) l=true→cs∈ot s l
 | [],h1=>by simp [iE] at h1
 |o::r,h1=>by
  rw [jU] at h1
  rcases TJ.1 h1 with e|e
  ·rw [ot,← e,show TN dk (dk+i)=true by rw [TF];omega]
   simp only []
   rw [show dk+i - dk=i by omega,AZ,h]
   simp
  ·rw [ot]
   split
   ·exact List.mem_append_right _ (mI h (jU.2 e))
   ·exact mI h (jU.2 e)
theorem qV {t:List D} {s:List Ob} {k size i sz n:Nat} {cs:List D} (hr:hI t s k= .cS i sz n) (h:s.getD i .dead= .box cs):∀ {l:List (Nat×Nat)} {j:Nat},l[j]? =some (k,size)→cs∈vg t s l
 | [],j,h1=>by simp at h1
 |(k',z)::r,j,h1=>by
  rw [vg]
  cases j with
  |zero=>
   simp only [TA,SL,TG] at h1
   obtain ⟨rfl,rfl⟩:=h1
   rw [hr]
   simp only [AZ,h]
   simp
  |succ j=>exact List.mem_append_right _ (qV hr h (by simpa using h1))
theorem qU {t:List D} {i:Nat} {cs:List D} (h:t.getD i .undef= .agg cs):∀ {l:List Nat},iE (dk+i) l=true→cs∈vf t l
 | [],q=>by cases q
 |o::r,q=>by
  rw [vf]
  rcases TJ.1 (jU.1 q) with e|e
  ·rw [← e,show TN dk (dk+i)=true by rw [TF];omega,show dk+i - dk=i by omega,h]
   simp
  ·exact List.mem_append_right _ (qU h (jU.2 e))
theorem pE {sp:HS} {n0:Nat} {s:List Ob} {used:List (Option Nat)} {i:Nat} {o0 o:Ob} (h:Kb sp n0 s used i o0=some o) (hd:o≠ .dead):some i∉used∧
  ((∃cs,o0= .box cs∧o= .box (cs.map D.aR)∧iE (dk+i) sp.Im=true)∨(∃cs,o0= .box cs∧o= .box cs∧kG n0 cs=true)∨(∃cs My,o0= .box cs∧o= .box My∧oJ sp n0 s i 0 cs=some My)∨
   (∃k t ps ag bd,o0= .lp k t ps ag bd∧o= .lp k t ps ag bd∧kG n0 t=true)∨(o=o0∧(∀cs,o≠ .box cs)∧∀k t ps ag bd,o≠ .lp k t ps ag bd)):=by
 have nu:∀ {b:Bool},(b&& !sm i used)=true→some i∉used:=fun {b} hk hm=>by
  simp only [SG,TE] at hk
  rw [nv.2 hm] at hk
  simp at hk
 unfold Kb at h
 split at h
 ·rename_i hk
  refine ⟨nu hk,?_⟩
  split at h
  ·rename_i cs
   simp only [SG] at hk
   exact .inl ⟨cs,rfl,(SE h).symm,hk.1⟩
  ·cases h
 ·split at h
  ·exact absurd (SE h).symm hd
  ·rename_i hk
   refine ⟨nu hk,?_⟩
   split at h
   ·rename_i cs
    split at h
    ·rename_i My hc
     exact .inr (.inr (.inl ⟨cs,My,rfl,(SE h).symm,hc⟩))
    ·cases h
   ·rename_i k t ps ag bd
    split at h
    ·rename_i Nc
     exact .inr (.inr (.inr (.inl ⟨k,t,ps,ag,bd,rfl,(SE h).symm,Nc⟩)))
    ·cases h
   ·rename_i h1 h2
    obtain rfl:=SE h
    exact .inr (.inr (.inr (.inr ⟨rfl,h1,h2⟩)))
theorem oq {sp:HS} {n0:Nat} {t t':List D} {s s':List Ob} (h:nr sp n0 t s=some (t',s')) (N0:qT sp t s):
  (n0≤s'.length∧s'.length=n0+sp.mj.length)∧∀ {w0:dq} {M:MM} {own:Nat→Option Nat} {w:World} {tmps:Array Value},n0≤s.length→bw w0 M own (bo s) w→M.upto s.length→bS M t tmps→
   ∃M' LB,bw w0 M' LB (bo s') w∧M'.upto s'.length∧(M.cut n0).Le M'∧bS M' t' tmps:=by
 unfold nr at h
 split at h
 ·rename_i used new hu
  split at h
  ·rename_i PL
   split at h
   ·rename_i t1 s1 ht hs
    simp only [SL,TG] at h
    obtain ⟨rfl,rfl⟩:=h
    obtain ⟨l,rfl,hl,Qq⟩:=wM hs
    obtain ⟨ht1,OH⟩:=qh ht
    obtain ⟨⟨Sp,hu2⟩,hgrow⟩:=sZ hu
    have hlen:(l++new).length=n0+sp.mj.length:=by simp [hl,hu2]
    refine ⟨⟨by omega,hlen⟩,?_⟩
    intro w0 M own w tmps hn hw Na LM
    let rv:Nat→Value:=fun k=>match TN dk k with
     |false=>tmps.getD k undef
     |true=>match M.box ((k - dk) / 1000) with
      |some b=>(w.cell? ⟨b,(k - dk)%1000,none⟩).getD undef
      |none=>undef
    have Qz:∀k,hI t s k≠ .undef→bk M (hI t s k) (rv k):=by
     intro k ME
     cases hb:TN dk k with
     |false=>
      simp only [hI,rv,hb]
      exact iR LM k
     |true=>
      simp only [hI,rv,hb] at ME ⊢
      split at ME
      ·rename_i cs LP
       obtain ⟨b,vs,ty,kb⟩:=hw.box _ cs LP
       have hc:∃d,cs[(k - dk)%1000]? =some d:=by
        cases e:cs[(k - dk)%1000]? with
        |none=>rw [SK,e] at ME;exact absurd rfl ME
        |some d=>exact ⟨d,rfl⟩
       obtain ⟨d,hd⟩:=hc
       obtain ⟨u,h1,h2⟩:=lL kb.len kb.rep hd
       rw [kb.box,SK,hd]
       simp only [World.cell?,kb.cy,h1]
       exact h2
      ·exact absurd rfl ME
    let bxN:Nat→Option Nat:=fun j=>match sp.mj[j]? with
     |some (k,_)=>(match hI t s k with| .cS i _ _=>M.box i|_=>none)
     |none=>none
    let hdr:Nat→Nat→Option Value:=fun j v=>match sp.mj[j]? with
     |some (k,size)=>(match hI t s k with| .cS _ _ _=>(if v=size then some (rv k) else none)|_=>(if v=0 then some (rv k) else none))
     |none=>none
    let M':MM:=⟨M.cell,fun i=>if i<n0 then M.box i else bxN (i - n0),fun i v=>if i<n0 then M.bl i v else hdr (i - n0) v,M.eB⟩
    let ren:Nat→Option Nat:=fun i=>match j7 i used n0 with|some k=>some k|none=>if i<n0 then some i else none
    let LB:Nat→Option Nat:=fun b=>(own b).bind ren
    have hle:(M.cut n0).Le M':=by
     refine ⟨fun _ _ _ h=>h,fun i b k=> ?_,fun i v b k=> ?_,fun _ h=>h⟩
     ·simp only [MM.cut] at k
      split at k
      ·rename_i q;simp only [M',if_pos q];exact k
      ·cases k
     ·simp only [MM.cut] at k
      split at k
      ·rename_i q;simp only [M',if_pos q];exact k
      ·cases k
    have root:∀(j k size:Nat),sp.mj[j]? =some (k,size)→
      (∃fl sz xs a len cap o,hI t s k= .aj fl sz xs∧rv k= .slice a len cap∧used[j]? =some o∧new[j]? =some (.bO 0 size)∧(sz=size∨xs= [])∧bk M (.aj fl sz xs) (.slice a len cap)∧((fl= .tight∧o=none)∨∃i v,fl= .tok i v∧o=some i∧s.getD i .dead= .bO v size))∨
      (∃i n cs b cap,hI t s k= .cS i size n∧rv k= .slice (some ⟨b,0,none⟩) n cap∧used[j]? =some (some i)∧new[j]? =some (.box (cs.map D.aR))∧s.getD i .dead= .box cs∧M.box i=some b∧M.bl i size=some (.slice (some ⟨b,0,none⟩) n cap)∧n≤cap∧∀c∈cs,c.clean=true):=by
     intro j k size hj
     obtain ⟨d',o,ob,h1,h2,h3⟩:=hgrow j k size hj
     rcases ou h1 with ⟨fl,sz,xs,q1,q2,rfl,q3,q4⟩|⟨i,n,cs,q1,q2,rfl,q3,rfl⟩
     ·have hr:=Qz k (by rw [q1];simp)
      rw [q1] at hr
      generalize hv:rv k=v at hr
      cases hr with
      |aj b off vs hl LH ha LR hc hr LL ho=>
       exact .inl ⟨fl,sz,xs,_,_,_,o,q1,rfl,h2,h3,q3,.aj b off vs hl LH ha LR hc hr LL ho,q4⟩
     ·have hr:=Qz k (by rw [q1];simp)
      rw [q1] at hr
      generalize hv:rv k=v at hr
      cases hr with
      |cS hb hh hc=>
       exact .inr ⟨i,n,cs,_,_,q1,rfl,h2,h3,q3,hb,hh,hc,N0 cs (List.mem_append_right _ (List.mem_append_left _ (qV q1 q3 hj)))⟩
    have newAt:∀ {i:Nat} {o:Ob},bo (l++new) i=o→o≠ .dead→(i<n0∧l[i]? =some o)∨(n0≤i∧∃k size,sp.mj[i - n0]? =some (k,size)∧new[i - n0]? =some o):=by
     intro i o hi ME
     unfold bo at hi
     rcases SY i l.length with LN|hge
     ·rw [SK,List.getElem?_append_left LN] at hi
      rw [List.getElem?_eq_getElem LN] at hi ⊢
      exact .inl ⟨by omega,by simpa using hi⟩
     ·rw [SK,List.getElem?_append_right hge] at hi
      rw [hl] at hi hge
      cases e:new[i - n0]? with
      |none=>rw [e] at hi;exact absurd hi.symm ME
      |some x=>
       rw [e] at hi
       simp only [Option.getD_some] at hi
       subst hi
       have LN:i - n0<sp.mj.length:=by
        rw [← hu2]
        rcases SY (i - n0) new.length with q|q
        ·exact q
        ·rw [SN q] at e;cases e
       exact .inr ⟨hge,sp.mj[i - n0].1,sp.mj[i - n0].2,by simp [LN],rfl⟩
    have iJ:∀ {i:Nat} {o0:Ob},s[i]? =some o0→bo s i=o0:=fun {i o0} h1=>by unfold bo;rw [SK,h1];rfl
    have O9:∀ {j k size:Nat} {fl:jI} {sz:Nat} {xs:List D},sp.mj[j]? =some (k,size)→hI t s k= .aj fl sz xs→bk M (.aj fl sz xs) (rv k)→(sz=size∨xs= [])→bk M' (.aj (.tok (n0+j) 0) size xs) (rv k):=by
     intro j k size fl sz xs hj q1 hr q3
     refine bk.resize (sz:=sz) ?_ q3
     generalize hv:rv k=v at hr
     cases hr with
     |aj b off vs Pr LH ha LR hc hr LL ho=>
      refine .aj b off vs Pr LH ha LR hc hr LL ?_
      simp only [MM.od,M',if_neg (show ¬n0+j<n0 by omega),hdr,show n0+j - n0=j by omega,hj,q1,if_true,hv]
    have Pe:∀ {j k size i n b cap:Nat},sp.mj[j]? =some (k,size)→hI t s k= .cS i size n→rv k= .slice (some ⟨b,0,none⟩) n cap→M.box i=some b→n≤cap→bk M' (.cS (n0+j) size n) (rv k):=by
     intro j k size i n b cap hj q1 hv hb hc
     rw [hv]
     refine .cS (b:=b) ?_ ?_ hc
     ·simp only [M',if_neg (show ¬n0+j<n0 by omega),bxN,show n0+j - n0=j by omega,hj,q1];exact hb
     ·simp only [M',if_neg (show ¬n0+j<n0 by omega),hdr,show n0+j - n0=j by omega,hj,q1,if_true,hv]
    refine ⟨M',LB,⟨hw.below,hw.cells,hw.iJ,?_,?_,?_,?_,?_,hw.eB⟩,?_,hle,?_⟩
    ·intro b i k
     simp only [LB] at k
     cases e:own b with
     |none=>rw [e] at k;cases k
     |some i'=>exact hw.owned b i' e
    ·
     intro i cs hi
     rcases newAt hi (by simp) with ⟨LN,hli⟩|⟨hge,k,size,hj,Mq⟩
     ·obtain ⟨o0,h1,h2⟩:=Qq i _ hli
      rw [Ti] at h2
      obtain ⟨hnu,MC⟩:=pE h2 (by simp)
      have kept:∀ {Ol:List D},o0= .box Ol→cs.length=Ol.length→(∀(b:Nat) (vs:Array Value) (ty:TypeId),pf w0 M own i Ol w b vs ty→∀(j:Nat) (d:D) (v:Value),cs[j]? =some d→vs[j]? =some v→bk M' d v)→∃b vs ty,pf w0 M' LB i cs w b vs ty:=by
       intro Ol e RA M4
       subst e
       obtain ⟨b,vs,ty,k⟩:=hw.box i Ol (iJ h1)
       refine ⟨b,vs,ty,by simp only [M',if_pos LN];exact k.box,k.base,?_,k.none,k.cy,by rw [RA];exact k.len,M4 b vs ty k,fun sz a len cap q=>k.room sz a len cap (by simpa only [M',if_pos LN] using q)⟩
       simp only [LB,k.own,T4,ren,gE hnu,if_pos LN]
      rcases MC with ⟨Ol,rfl,e,hm⟩|⟨Ol,rfl,e,Nc⟩|⟨Ol,My,rfl,e,hc⟩|⟨_,_,_,_,_,_,e,_⟩|⟨rfl,RC,_⟩
      ·obtain rfl:=Ob.box.inj e
       have P8:=N0 Ol (List.mem_append_left _ (mI (iJ h1) hm))
       refine kept rfl (by simp) fun b vs ty k j d v p q=> ?_
       rw [SW,SU] at p
       obtain ⟨d0,p0,rfl⟩:=p
       exact ((k.rep j d0 v p0 q).nT (P8 _ (Tb p0))).mono (MM.kr M')
      ·obtain rfl:=Ob.box.inj e
       rw [jd,Td] at Nc
       exact kept rfl rfl fun b vs ty k j d v p q=>((k.rep j d v p q).cut (Nc _ (Tb p))).mono hle
      ·obtain rfl:=Ob.box.inj e
       obtain ⟨c1,c2⟩:=rK hc
       refine kept rfl c1 fun b vs ty k j d v p q=> ?_
       have hj0:j<Ol.length:=by
        rw [← c1]
        rcases SY j cs.length with h|h
        ·exact h
        ·rw [SN h] at p;cases p
       have Rg:Ol[j]? =some Ol[j]:=by simp [hj0]
       rcases c2 j _ d Rg p with ⟨id,size,o,ob,hf,hg⟩|⟨Nc,rfl⟩
       ·rw [Ti] at hf
        obtain ⟨hj1,hf⟩:=CW hf
        obtain ⟨jj,rfl,hjj⟩:=oE hf
        obtain ⟨d2,o2,ob2,Qh,hu3,hn3⟩:=hgrow jj _ size hjj
        have e1:(dk+i*1000+j - dk) / 1000=i:=by omega
        have e2:(dk+i*1000+j - dk)%1000=j:=by omega
        have Rn:TN dk (dk+i*1000+j)=true:=by rw [TF];omega
        have Np:hI t s (dk+i*1000+j)=Ol[j]:=by
         simp only [hI,Rn,e1,e2]
         rw [show s.getD i .dead= .box Ol from iJ h1]
         simp only []
         rw [SK,Rg]
         rfl
        have Mh:rv (dk+i*1000+j)=v:=by
         simp only [rv,Rn,e1,e2]
         rw [k.box]
         simp only [World.cell?,k.cy,q]
         rfl
        rcases ou hg with ⟨fl,sz,xs,q1,rfl,_,q3,_⟩|⟨i',n,My,q1,rfl,_,q3,_⟩
        ·have hr:=O9 hjj (Np.trans q1) (by rw [Mh,← q1];exact k.rep j _ v Rg q) q3
         rw [Mh] at hr
         exact hr
        ·rcases root jj _ size hjj with ⟨_,_,_,_,_,_,_,r1,_⟩|⟨i2,n2,Ov,b2,cap2,r1,r2,_,_,_,r3,_,r4,_⟩
         ·rw [Np,q1] at r1;cases r1
         ·rw [Np,q1] at r1
          cases r1
          have hr:=Pe hjj (Np.trans q1) r2 r3 r4
          rw [Mh] at hr
          exact hr
       ·exact ((k.rep j _ v Rg q).cut Nc).mono hle
      ·cases e
      ·exact absurd rfl (RC cs)
     ·rcases root _ k size hj with ⟨_,_,_,_,_,_,_,_,_,_,r,_⟩|⟨i',n,Ol,b,cap,q1,q2,q3,q4,q5,q6,q7,q8,q9⟩
      ·rw [Mq] at r;cases r
      ·rw [Mq] at q4
       obtain rfl:=Ob.box.inj (SE q4)
       obtain ⟨b2,vs,ty,kb⟩:=hw.box i' Ol q5
       obtain rfl:b2=b:=by have:=kb.box;rw [q6] at this;exact (SE this).symm
       have Sc:¬i<n0:=by omega
       refine ⟨b2,vs,ty,?_,kb.base,?_,kb.none,kb.cy,by simpa using kb.len,fun j d v p q=> ?_,fun sz a len Mb q=> ?_⟩
       ·simp only [M',if_neg Sc,bxN,hj,q1];exact q6
       ·simp only [LB,kb.own,T4,ren,lO PL q3]
        congr 1
        omega
       ·rw [SW,SU] at p
        obtain ⟨d0,p0,rfl⟩:=p
        exact ((kb.rep j d0 v p0 q).nT (q9 _ (Tb p0))).mono (MM.kr M')
       ·simp only [M',if_neg Sc,hdr,hj,q1] at q
        split at q
        ·rename_i e
         subst e
         rw [q2] at q
         obtain ⟨rfl,rfl,rfl⟩:=Value.slice.inj (SE q)
         exact kb.room _ _ _ _ q7
        ·cases q
    ·
     intro i ver sz hi
     rcases newAt hi (by simp) with ⟨LN,hli⟩|⟨hge,k,size,hj,Mq⟩
     ·obtain ⟨o0,h1,h2⟩:=Qq i _ hli
      rw [Ti] at h2
      obtain ⟨hnu,MC⟩:=pE h2 (by simp)
      have ho:o0= .bO ver sz:=by
       rcases MC with ⟨_,_,e,_⟩|⟨_,_,e,_⟩|⟨_,_,_,e,_⟩|⟨_,_,_,_,_,_,e,_⟩|⟨rfl,_⟩
       ·cases e
       ·cases e
       ·cases e
       ·cases e
       ·rfl
      subst ho
      obtain ⟨a,len,cap,k⟩:=hw.bO i ver sz (iJ h1)
      refine ⟨a,len,cap,by simp only [M',if_pos LN];exact k.bl,fun v hv=>by simp only [M',if_pos LN];exact k.last v hv,?_⟩
      rcases k.room with q|⟨b,vs,ty,fz,ha,r⟩
      ·exact .inl q
      ·refine .inr ⟨b,vs,ty,fz,ha,r.base,?_,r.cy,r.fz,r.cap,r.none⟩
       simp only [LB,r.own,T4,ren,gE hnu,if_pos LN]
     ·have QZ:¬i<n0:=by omega
      rcases root _ k size hj with ⟨fl,R0,xs,a,len,cap,o,q1,q2,q3,q4,q5,q6,q7⟩|⟨_,_,_,_,_,_,_,_,r,_⟩
      ·rw [Mq] at q4
       obtain ⟨rfl,rfl⟩:=Ob.bO.inj (SE q4)
       refine ⟨a,len,cap,?_,fun v hv=> ?_,?_⟩
       ·simp only [M',if_neg QZ,hdr,hj,q1,if_true,q2]
       ·simp only [M',if_neg QZ,hdr,hj,q1,if_neg (show ¬v=0 by omega)]
       ·cases q6 with
        |aj b off vs Pr LH ha LR hc hr LL ho=>
         rcases q7 with ⟨rfl,rfl⟩|⟨i',v,rfl,rfl,hs'⟩
         ·exact .inl ho
         ·obtain ⟨a',LJ,Mb,k2⟩:=hw.bO i' v _ hs'
          have:M.bl i' v=some _:=ho
          rw [k2.bl] at this
          obtain ⟨rfl,rfl,rfl⟩:=Value.slice.inj (SE this)
          rcases k2.room with q|⟨b,vs,ty,fz,ha,r⟩
          ·exact .inl q
          ·refine .inr ⟨b,vs,ty,fz,ha,r.base,?_,r.cy,r.fz,r.cap,r.none⟩
           simp only [LB,r.own,T4,ren,lO PL q3]
           congr 1
           omega
      ·rw [Mq] at r;cases r
    ·
     intro i F hi
     obtain ⟨o,QY⟩:∃o,bo (l++new) i=o:=⟨_,rfl⟩
     rw [QY] at hi
     have nb:∀cs,o≠ .box cs:=fun cs e=>by rw [e] at hi;cases hi
     have nd:o≠ .dead:=fun e=>by rw [e] at hi;cases hi
     have nf:∀v sz,o≠ .bO v sz:=fun v sz e=>by rw [e] at hi;cases hi
     have nl:∀k t ps ag bd,o≠ .lp k t ps ag bd:=fun k t ps ag bd e=>by rw [e] at hi;cases hi
     rcases newAt QY nd with ⟨LN,hli⟩|⟨hge,k,size,hj,Mq⟩
     ·obtain ⟨o0,h1,h2⟩:=Qq i _ hli
      rw [Ti] at h2
      obtain ⟨hnu,MC⟩:=pE h2 nd
      have ho:o0=o:=by
       rcases MC with ⟨_,_,e,_⟩|⟨_,_,e,_⟩|⟨_,_,_,e,_⟩|⟨_,_,_,_,_,_,e,_⟩|⟨rfl,_⟩
       ·exact absurd e (nb _)
       ·exact absurd e (nb _)
       ·exact absurd e (nb _)
       ·exact absurd e (nl _ _ _ _ _)
       ·rfl
      subst ho
      obtain ⟨b,LF,clock,k⟩:=hw.mp i F (by rw [iJ h1];exact hi)
      refine ⟨b,LF,clock,by simp only [M',if_pos LN];exact k.box,k.base,?_,k.none,k.cy,k.fits⟩
      simp only [LB,k.own,T4,ren,gE hnu,if_pos LN]
     ·rcases root _ k size hj with ⟨_,_,_,_,_,_,_,_,_,_,r,_⟩|⟨_,_,_,_,_,_,_,_,r,_⟩<;>rw [Mq] at r<;>obtain rfl:=SE r
      ·exact absurd rfl (nf _ _)
      ·exact absurd rfl (nb _)
    ·
     intro i kk tt ps ag bd hi
     rcases newAt hi (by simp) with ⟨LN,hli⟩|⟨hge,k,size,hj,Mq⟩
     ·obtain ⟨o0,h1,h2⟩:=Qq i _ hli
      rw [Ti] at h2
      obtain ⟨hnu,MC⟩:=pE h2 (by simp)
      have ho:o0= .lp kk tt ps ag bd∧kG n0 tt=true:=by
       rcases MC with ⟨_,_,e,_⟩|⟨_,_,e,_⟩|⟨_,_,_,e,_⟩|⟨_,_,_,_,_,rfl,e,Nc⟩|⟨_,_,Pq⟩
       ·cases e
       ·cases e
       ·cases e
       ·cases e;exact ⟨rfl,Nc⟩
       ·exact absurd rfl (Pq _ _ _ _ _)
      obtain ⟨rfl,Nc⟩:=ho
      rw [jd,Td] at Nc
      obtain ⟨b,r,k⟩:=hw.lp i kk tt ps ag bd (iJ h1)
      refine ⟨b,r,by simp only [M',if_pos LN];exact k.box,k.base,?_,k.cy,k.st,k.pd,⟨k.tm.1,fun j d v p q=>((k.tm.2 j d v p q).cut (Nc _ (Tb p))).mono hle⟩,k.ps,k.ag,k.bd⟩
      simp only [LB,k.own,T4,ren,gE hnu,if_pos LN]
     ·rcases root _ k size hj with ⟨_,_,_,_,_,_,_,_,_,_,r,_⟩|⟨_,_,_,_,_,_,_,_,r,_⟩<;>rw [Mq] at r<;>cases r
    ·
     refine ⟨fun id L9=> ?_,fun id v L9=> ?_⟩
     ·simp only [M',if_neg (show ¬id<n0 by omega),bxN]
      rw [SN (by omega)]
     ·simp only [M',if_neg (show ¬id<n0 by omega),hdr]
      rw [SN (by omega)]
    ·
     refine ⟨by rw [ht1];exact LM.1,fun i d' v p q=> ?_⟩
     have Sm:i<t.length:=by
      rcases SY i t.length with h|h
      ·exact h
      ·rw [SN (by omega)] at p;cases p
     have hd:t[i]? =some t[i]:=by simp [Sm]
     have N4:=OH i _ d' hd p
     rw [Ti] at N4
     unfold DQ at N4
     split at N4
     ·rename_i id size hf
      split at N4
      ·rename_i d2 o hg
       obtain rfl:=SE N4
       obtain ⟨hbi,hf⟩:=CV hf
       obtain ⟨j,rfl,hj⟩:=oE hf
       ·have Se:TN dk i=false:=by
         cases e:TN dk i with
         |false=>rfl
         |true=>rw [TF] at e;omega
        have Np:hI t s i=t[i]:=by
         simp only [hI,Se]
         rw [SK,hd]
         rfl
        have Mh:rv i=v:=by
         simp only [rv,Se]
         rw [Array.getD_eq_getD_getElem?,q]
         rfl
        rcases ou hg with ⟨fl,sz,xs,q1,rfl,_,q3,_⟩|⟨i',n,My,q1,rfl,_,q3,_⟩
        ·have hr:=O9 hj (Np.trans q1) (by rw [Mh,← q1];exact LM.2 i _ v hd q) q3
         rw [Mh] at hr
         exact hr
        ·rcases root j _ size hj with ⟨_,_,_,_,_,_,_,r1,_⟩|⟨i2,n2,Ov,b2,cap2,r1,r2,_,_,_,r3,_,r4,_⟩
         ·rw [Np,q1] at r1;cases r1
         ·rw [Np,q1] at r1
          cases r1
          have hr:=Pe hj (Np.trans q1) r2 r3 r4
          rw [Mh] at hr
          exact hr
      ·cases N4
     ·split at N4
      ·split at N4
       ·rename_i Nc
        obtain rfl:=SE N4
        exact ((LM.2 i _ v hd q).cut Nc).mono hle
       ·cases N4
      ·split at N4
       ·rename_i hm
        split at N4
        ·rename_i cs LP
         obtain rfl:=SE N4
         have LP:t[i]= .agg cs:=LP
         have hc:=N0 cs (List.mem_append_right _ (List.mem_append_right _ (qU (by rw [SK,hd];exact LP) hm)))
         have hr:=(LM.2 i _ v hd q)
         rw [LP] at hr
         have hb:=hr.nT (by rw [D.clean,D.iT,Td];exact hc)
         rw [D.aR,D.fi] at hb
         exact hb.mono (MM.kr M')
        ·cases N4
       ·obtain rfl:=SE N4
        exact .undef v
   ·cases h
  ·cases h
 ·cases h
section
variable {P:Program}
inductive bJ (P:Program) (c:Code) (n0:Nat):List D→List Ob→Ex→List D→List Ob→Prop
  |out {t:List D} {s:List Ob} {ex:Ex} {t1 t':List D} {s1 s':List Ob} (sp:HS) (h:kz P c t s ex t1 s1) (hx:ex≠ .norm) (hh:nr sp n0 t1 s1=some (t',s')) (N0:qT sp t1 s1):bJ P c n0 t s ex t' s'
  |again {t:List D} {s:List Ob} {t1 t2:List D} {s1 s2:List Ob} {ex:Ex} {t':List D} {s':List Ob} (sp:HS) (h:kz P c t s .norm t1 s1) (hh:nr sp n0 t1 s1=some (t2,s2)) (N0:qT sp t1 s1) (k:bJ P c n0 t2 s2 ex t' s'):bJ P c n0 t s ex t' s'
theorem bJ.depth {c:Code} {n0:Nat} {t:List D} {s:List Ob} {ex:Ex} {t':List D} {s':List Ob} (h:bJ P c n0 t s ex t' s'):n0≤s.length→n0≤s'.length∧
  ∃n,∀(rr:Option Nat) (K:Nat→Prop) (w0:dq) (M:MM) (own:Nat→Option Nat) (w:World) (a:Act) (L:MM),L.Le (M.cut n0)→bw w0 M own (bo s) w→M.upto s.length→bS M t a.tmps→gk K M a.defers→
   Code.roundsIn (FW rr) 0 P c (fun e a' w'=>ex.is e∧∃M' LB,bw w0 M' LB (bo s') w'∧M'.upto s'.length∧L.Le M'∧bS M' t' a'.tmps∧gk K M' a'.defers) n a w:=by
 induction h with
 |out sp h hx hh N0=>
  intro hn
  obtain ⟨hl,hhead⟩:=oq hh N0
  refine ⟨hl.1,1,fun rr K w0 M own w a L le hw hu ht hd=> ?_⟩
  rw [roundsIn_succ]
  refine wpIn_mono (h.run rr (fun e=>by cases e) K w0 M own w a hw hu ht hd) ?_
  rintro e a' w' ⟨h0,M1,own1,q1,q2,q3,q4,q5⟩
  obtain ⟨M2,Nu,r1,r2,r3,r4⟩:=hhead (Nat.le_trans hn h.len) q1 q2 q4
  have fin:∃M' LB,bw w0 M' LB (bo _) w'∧M'.upto _∧L.Le M'∧bS M' _ a'.tmps∧gk K M' a'.defers:=⟨M2,Nu,r1,r2,(le.trans (MM.nD q3 n0)).trans r3,r4,q5.mono r3.eB⟩
  rename_i ex _ _ _ _
  cases ex with
  |norm=>exact absurd rfl hx
  |exit i=>cases e<;>simp only [Ex.is] at h0;exact ⟨h0,fin⟩
  |ret=>cases e<;>simp only [Ex.is] at h0;exact ⟨h0,fin⟩
 |again sp h hh N0 k ih=>
  intro hn
  obtain ⟨hl,hhead⟩:=oq hh N0
  obtain ⟨i1,n,i2⟩:=ih hl.1
  refine ⟨i1,n+1,fun rr K w0 M own w a L le hw hu ht hd=> ?_⟩
  rw [roundsIn_succ]
  refine wpIn_mono (h.run rr (fun e=>by cases e) K w0 M own w a hw hu ht hd) ?_
  rintro e a' w' ⟨h0,M1,own1,q1,q2,q3,q4,q5⟩
  obtain ⟨M2,Nu,r1,r2,r3,r4⟩:=hhead (Nat.le_trans hn h.len) q1 q2 q4
  cases e<;>simp only [Ex.is] at h0
  refine i2 rr K w0 M2 Nu w' a' L ?_ r1 r2 r4 (q5.mono r3.eB)
  have:=MM.nD r3 n0
  rw [MM.vz] at this
  exact (le.trans (MM.nD q3 n0)).trans this
theorem cO.ft {c:Code} {n0:Nat} {t:List D} {s:List Ob} {ex:Ex} {t':List D} {s':List Ob} (hn:n0≤s.length) (h:bJ P c n0 t s ex t' s'):cO P n0 (.loop c) t s ex t' s':=by
 obtain ⟨h1,n,h2⟩:=h.depth hn
 exact ⟨fun rr K w0 M own w a hw hu ht hd=>wpIn_loop_rounds n (h2 rr K w0 M own w a (M.cut n0) (.refl _) hw hu ht hd),h1⟩
theorem nE {ρ':Type} {r:ρ'} :∀ {l:List (List D)} {z:Z P} {k:Z P→Option ρ'},Dh l z k=some r→∃z',k z'=some r∧(z'.c→z.c∧∀cs∈l,∀c∈cs,c.clean=true)
 | [],z,k,h=>⟨z,h,fun q=>⟨q,fun _ h=>by simp at h⟩⟩
 |cs::l,z,k,h=>by
  rw [Dh] at h
  split at h
  ·rename_i My hc o _
   obtain ⟨z',h1,h2⟩:=nE h
   refine ⟨z',h1,fun q=>⟨(h2 q).1.2,fun x hx=> ?_⟩⟩
   rcases TJ.1 hx with rfl|hx
   ·exact (h2 q).1.1▸hc
   ·exact (h2 q).2 x hx
  ·cases h
theorem ba.Aw {rd:Bool} {c:Code} {sp:HS} {t t1:List D} {s s1:List Ob} {ex:Ex} {t2:List D} {s2:List Ob} (h:cO P s.length c t1 s1 ex t2 s2) (hh:nr sp s.length t s=some (t1,s1)) (N0:qT sp t s):ba P rd c t s ex t2 s2:=by
 obtain ⟨hl,hhead⟩:=oq hh N0
 refine ⟨fun rr _ K w0 M own w a hw hu ht hd=> ?_,h.len⟩
 obtain ⟨M2,Nu,r1,r2,r3,r4⟩:=hhead (SP _) hw hu ht
 refine wpIn_mono (h.run rr K w0 M2 Nu w a r1 r2 r4 (hd.mono r3.eB)) ?_
 rintro e a' w' ⟨h0,M',LB,q1,q2,q3,q4,q5⟩
 have:=MM.nD r3 s.length
 rw [MM.vz] at this
 exact ⟨h0,M',LB,q1,q2,((MM.IE hu).trans this).trans q3,q4,q5⟩
inductive ku (P:Program) (rd:Bool) (c:Code):List D→List Ob→Ex→List D→List Ob→Prop
  |out {t:List D} {s:List Ob} {ex:Ex} {t1:List D} {s1:List Ob} (h:ba P rd c t s ex t1 s1) (hx:ex≠ .norm):ku P rd c t s ex t1 s1
  |again {t:List D} {s:List Ob} {t1:List D} {s1:List Ob} {ex:Ex} {t':List D} {s':List Ob} (h:ba P rd c t s .norm t1 s1) (k:ku P rd c t1 s1 ex t' s'):ku P rd c t s ex t' s'
theorem ku.depth {rd:Bool} {c:Code} {t:List D} {s:List Ob} {ex:Ex} {t':List D} {s':List Ob} (h:ku P rd c t s ex t' s'):s.length≤s'.length∧
  ∃n,∀(rr:Option Nat) (_:rd=false→rr=none) (K:Nat→Prop) (w0:dq) (M:MM) (own:Nat→Option Nat) (w:World) (a:Act) (L:MM),L.Le M→bw w0 M own (bo s) w→M.upto s.length→bS M t a.tmps→gk K M a.defers→
   Code.roundsIn (FW rr) 0 P c (fun e a' w'=>ex.is e∧∃M' LB,bw w0 M' LB (bo s') w'∧M'.upto s'.length∧L.Le M'∧bS M' t' a'.tmps∧gk K M' a'.defers) n a w:=by
 induction h with
 |out h hx=>
  refine ⟨h.len,1,fun rr NS K w0 M own w a L le hw hu ht hd=> ?_⟩
  rw [roundsIn_succ]
  refine wpIn_mono (h.run rr NS K w0 M own w a hw hu ht hd) ?_
  rintro e a' w' ⟨h0,M1,own1,q1,q2,q3,q4,q5⟩
  have fin:∃M' LB,bw w0 M' LB (bo _) w'∧M'.upto _∧L.Le M'∧bS M' _ a'.tmps∧gk K M' a'.defers:=⟨M1,own1,q1,q2,le.trans q3,q4,q5⟩
  rename_i ex _ _
  cases ex with
  |norm=>exact absurd rfl hx
  |exit i=>cases e<;>simp only [Ex.is] at h0;exact ⟨h0,fin⟩
  |ret=>cases e<;>simp only [Ex.is] at h0;exact ⟨h0,fin⟩
 |again h k ih=>
  obtain ⟨i1,n,i2⟩:=ih
  refine ⟨Nat.le_trans h.len i1,n+1,fun rr NS K w0 M own w a L le hw hu ht hd=> ?_⟩
  rw [roundsIn_succ]
  refine wpIn_mono (h.run rr NS K w0 M own w a hw hu ht hd) ?_
  rintro e a' w' ⟨h0,M1,own1,q1,q2,q3,q4,q5⟩
  cases e<;>simp only [Ex.is] at h0
  exact i2 rr NS K w0 M1 own1 w' a' L (le.trans q3) q1 q2 q4 q5
theorem ba.ft {rd:Bool} {c:Code} {t:List D} {s:List Ob} {ex:Ex} {t':List D} {s':List Ob} (h:ku P rd c t s ex t' s'):ba P rd (.loop c) t s ex t' s':=by
 obtain ⟨h1,n,h2⟩:=h.depth
 exact ⟨fun rr NS K w0 M own w a hw hu ht hd=>wpIn_loop_rounds n (h2 rr NS K w0 M own w a M (.refl _) hw hu ht hd),h1⟩
theorem wY {rd:Bool} {ρ':Type} {r:ρ'} {c:Code} {body:List D→List Ob→Z P→(Ex→List D→List Ob→Z P→Option ρ')→Option ρ'}
  (hb:∀ {t:List D} {s:List Ob} {z:Z P} {K:Ex→List D→List Ob→Z P→Option ρ'},body t s z K=some r→∃ex t' s' z',K ex t' s' z'=some r∧(z'.c→z.c∧ba P rd c t s ex t' s')):
  ∀ {n:Nat} {t:List D} {s:List Ob} {z:Z P} {K:Ex→List D→List Ob→Z P→Option ρ'},iter body n t s z K=some r→∃ex t' s' z',K ex t' s' z'=some r∧(z'.c→z.c∧ku P rd c t s ex t' s')
 |0,t,s,z,K,h=>by simp [iter] at h
 |n+1,t,s,z,K,h=>by
  rw [iter] at h
  obtain ⟨ex,t1,s1,z1,h1,h2⟩:=hb h
  split at h1
  ·obtain ⟨ex',t2,s2,z2,h3,h4⟩:=wY hb h1
   exact ⟨ex',t2,s2,z2,h3,fun q=>⟨(h2 (h4 q).1).1,.again (h2 (h4 q).1).2 (h4 q).2⟩⟩
  ·rename_i ME
   exact ⟨_,t1,s1,z1,h1,fun q=>⟨(h2 q).1,.out (h2 q).2 ME⟩⟩
end
def A1 (K:Nat→Prop) (w0:dq) (M:MM) (ex:Ex) (t':List D) (s':List Ob):Exit→Act→World→Prop:=
  fun e a' w'=>ex.is e∧∃M' LB,bw w0 M' LB (bo s') w'∧M'.upto s'.length∧M.Le M'∧bS M' t' a'.tmps∧gk K M' a'.defers
theorem xX {K:Nat→Prop} {w0:dq} {M M1:MM} (le:M.Le M1) {ex:Ex} {t':List D} {s':List Ob} {e:Exit} {a:Act} {w:World} (h:A1 K w0 M1 ex t' s' e a w):A1 K w0 M ex t' s' e a w:=by
 obtain ⟨h0,M',LB,h1,h2,h3,h4,h5⟩:=h
 exact ⟨h0,M',LB,h1,h2,le.trans h3,h4,h5⟩
theorem gC {P:Program} {b:Frame} {a:Act} {k:List Item} {cs:List Frame} {w:World} {c:Code} :step P (lone (b.atR a (.code (.scope c)::k)) cs w)= .next (lone (b.atR a (.code c:: .inScope c::k)) cs w):=
 step_lone_go (by simp [stepG,stepG.exec,Frame.atR])
theorem rY {P:Program} {b:Frame} {a:Act} {k:List Item} {cs:List Frame} {w:World} {c:Code} :step P (lone (b.atR a (.inScope c::k)) cs w)= .next (lone (b.atR a k) cs w):=
 step_lone_go (by simp [stepG,stepG.exec,Frame.atR])
theorem md {P:Program} {F:Fence} {n:Nat} {Q:Exit→Act→World→Prop} {a:Act} {w:World} {c:Code} (h:c.wpIn F n P (Exit.noGoto Q) a w):(Code.scope c).wpIn F n P Q a w:=by
 intro b k cs hro hb hr
 have h0:(lone (b.atR a (.code (.scope c)::k)) cs w).fenced P F:=fenced_calm hb hr rfl
 obtain ⟨e,a₁,w₁,hq,MH⟩:=h b (.inScope c::k) cs hro hb hr
 cases e with
 |normal=>exact ⟨.normal,a₁,w₁,hq,.head h0 gC (StepsIn.trans MH (.one (fenced_calm hb hr rfl) rY))⟩
 |exit id=>
  have hx:exitTo id (.inScope c::k)=exitTo id k:=by simp [exitTo]
  exact ⟨.exit id,a₁,w₁,hq,fun k' hk=> .head h0 gC (MH.1 k' (by rw [hx];exact hk)),
   fun Oo hk=>let ⟨k₁,h1,h2⟩:=MH.2 Oo (by rw [hx];exact hk);⟨k₁,h1,.head h0 gC h2⟩⟩
 |goto l=>exact hq.elim
 |ret=>exact ⟨_,a₁,w₁,hq,.of_steps (.one h0 gC) MH⟩
 |panic ch=>exact ⟨_,a₁,w₁,hq,.of_steps (.one h0 gC) MH⟩
 |outgrown=>exact ⟨_,a₁,w₁,hq,.of_steps (.one h0 gC) MH⟩
section
variable {P:Program} {rd:Bool}
theorem ba.skip (t:List D) (s:List Ob):ba P rd .skip t s .norm t s:=
 ⟨fun _ _ _ _ M own _ _ hw hu ht hd=>wpIn_skip ⟨trivial,M,own,hw,hu,.refl M,ht,hd⟩,SP _⟩
theorem ba.label (l:Nat) (t:List D) (s:List Ob):ba P rd (.label l) t s .norm t s:=
 ⟨fun _ _ _ _ M own _ _ hw hu ht hd=>wpIn_label ⟨trivial,M,own,hw,hu,.refl M,ht,hd⟩,SP _⟩
theorem ba.exit (i:Nat) (t:List D) (s:List Ob):ba P rd (.exit i) t s (.exit i) t s:=
 ⟨fun _ _ _ _ M own _ _ hw hu ht hd=>wpIn_exit ⟨rfl,M,own,hw,hu,.refl M,ht,hd⟩,SP _⟩
theorem ba.Ks (t:List D) (s:List Ob):ba P rd .ret t s .ret t s:=
 ⟨fun _ _ _ _ M own _ _ hw hu ht hd=>wpIn_ret ⟨trivial,M,own,hw,hu,.refl M,ht,hd⟩,SP _⟩
theorem ba.Ko {x y:Code} {t t1 t2:List D} {s s1 s2:List Ob} {ex:Ex} (h:ba P rd x t s .norm t1 s1) (k:ba P rd y t1 s1 ex t2 s2):ba P rd (.seq x y) t s ex t2 s2:=by
 refine ⟨fun rr NS K w0 M own w a hw hu ht hd=>wpIn_seq (wpIn_mono (h.run rr NS K w0 M own w a hw hu ht hd) ?_),Nat.le_trans h.len k.len⟩
 rintro e a' w' ⟨h0,M',LB,h1,h2,h3,h4,h5⟩
 cases e<;>simp only [Ex.is] at h0
 exact wpIn_mono (k.run rr NS K w0 M' LB w' a' h1 h2 h4 h5) fun e a w hh=>xX h3 hh
theorem ba.Kn {x y:Code} {t t1:List D} {s s1:List Ob} {ex:Ex} (h:ba P rd x t s ex t1 s1) (hx:ex≠ .norm):ba P rd (.seq x y) t s ex t1 s1:=by
 refine ⟨fun rr NS K w0 M own w a hw hu ht hd=>wpIn_seq (wpIn_mono (h.run rr NS K w0 M own w a hw hu ht hd) ?_),h.len⟩
 rintro e a' w' ⟨h0,h1⟩
 cases ex with
 |norm=>exact absurd rfl hx
 |exit i=>cases e<;>simp only [Ex.is] at h0;exact ⟨h0,h1⟩
 |ret=>cases e<;>simp only [Ex.is] at h0;exact ⟨h0,h1⟩
theorem ba.cond {c:Operand} {x y:Code} {t t1:List D} {s s1:List Ob} {ex:Ex} {b:Bool} (hb:bR t c= .bool b) (h:ba P rd (if b then x else y) t s ex t1 s1):ba P rd (.cond c x y) t s ex t1 s1:=by
 refine ⟨fun rr NS K w0 M own w a hw hu ht hd=>wpIn_cond (t:=b) ?_ (h.run rr NS K w0 M own w a hw hu ht hd),h.len⟩
 have hr:=m6 ht c
 rw [hb] at hr
 generalize hv:a.eval c=v at hr
 cases hr
 rfl
theorem ba.IZ {id:Nat} {x:Code} {t t1:List D} {s s1:List Ob} (h:ba P rd x t s (.exit id) t1 s1):ba P rd (.block id x) t s .norm t1 s1:=by
 refine ⟨fun rr NS K w0 M own w a hw hu ht hd=>wpIn_block (wpIn_mono (h.run rr NS K w0 M own w a hw hu ht hd) ?_),h.len⟩
 rintro e a' w' ⟨h0,h1⟩
 cases e<;>simp only [Ex.is] at h0
 subst h0
 simp only [Exit.inBlock,if_true]
 exact ⟨trivial,h1⟩
theorem ba.FK {id:Nat} {x:Code} {t t1:List D} {s s1:List Ob} {ex:Ex} (h:ba P rd x t s ex t1 s1) (hx:∀i,ex= .exit i→i≠id):ba P rd (.block id x) t s ex t1 s1:=by
 refine ⟨fun rr NS K w0 M own w a hw hu ht hd=>wpIn_block (wpIn_mono (h.run rr NS K w0 M own w a hw hu ht hd) ?_),h.len⟩
 rintro e a' w' ⟨h0,h1⟩
 cases ex with
 |norm=>cases e<;>simp only [Ex.is] at h0;exact ⟨h0,h1⟩
 |exit i=>
  cases e<;>simp only [Ex.is] at h0
  subst h0
  simp only [Exit.inBlock,if_neg (hx _ rfl)]
  exact ⟨rfl,h1⟩
 |ret=>cases e<;>simp only [Ex.is] at h0;exact ⟨h0,h1⟩
theorem ba.scope {x:Code} {t t1:List D} {s s1:List Ob} {ex:Ex} (h:ba P rd x t s ex t1 s1):ba P rd (.scope x) t s ex t1 s1:=by
 refine ⟨fun rr NS K w0 M own w a hw hu ht hd=>md (wpIn_mono (h.run rr NS K w0 M own w a hw hu ht hd) ?_),h.len⟩
 rintro e a' w' ⟨h0,h1⟩
 cases ex<;>cases e<;>simp only [Ex.is] at h0<;>exact ⟨h0,h1⟩
theorem ba.text {id:Nat} {ops:Array Oper} {t t1:List D} {s s1:List Ob} {tr:List Tr} (h:Trace P ops ops.toList t s tr t1 s1):ba P rd (.region id ops false) t s .norm t1 s1:=by
 refine ⟨fun rr NS K w0 M own w a hw hu ht hd=>wpIn_region ?_,iV h⟩
 rw [List.range_eq_range',show ops.size=ops.toList.length by simp]
 exact oO rr h 0 rfl hw hu ht rfl fun M' LB w' a' le up Nf QB QS=>⟨trivial,M',LB,Nf,up,le,QB,QS▸hd.mono le.eB⟩
theorem ba.draw {id:Nat} {ops:Array Oper} {t t1:List D} {s s1:List Ob} {tr:List Tr} (hm:P.follows .mixedOrders=true) (h:Trace P ops ops.toList t s tr t1 s1) (hd:mL ops ((tr.map Tr.fp).reverse++ [])=true):ba P rd (.region id ops true) t s .norm t1 s1:=
 ⟨fun rr _ K _ _ _ _ _ hw hu ht RB=>wB h hd hm id hw hu ht rfl rr fun M' LB _ _ le up Nf QB QS=>⟨trivial,M',LB,Nf,up,le,QB,QS▸RB.mono le.eB⟩,iV h⟩
theorem sd {P:Program} {a:Act} {g:Operand} {gf:FuncId} {fv cv:Array Value} {l:Nat} (hf:a.eval g= .func (.func gf) fv cv) (w:World):
  (resolve a.eval (rangeCall g l) 0).run P w= .ok { target:= .fn (.func gf) cv,args:=fv++ #[.func (.yield l) #[] #[]] } w:=by
 have e:a.eval (.const (.func (.yield l) #[] #[]))= .func (.yield l) #[] #[]:=rfl
 simp [rangeCall,resolve,hf,Deferred.ofValue,e]
theorem bS.jx {M:MM} {aD:List Nat} :∀ {t:List D} {vs:Array Value} (i:Nat),bS M t vs→bS M (jx aD i t) vs:=by
 intro t vs i h
 have len:∀(t:List D) (i:Nat),(Go.Ev.jx aD i t).length=t.length:=by
  intro t
  induction t with
  |nil=>intro i;rfl
  |cons d r ih=>intro i;simp [Go.Ev.jx,ih]
 have MW:∀(t:List D) (i k:Nat) (d:D),(Go.Ev.jx aD i t)[k]? =some d→d= .undef∨t[k]? =some d:=by
  intro t
  induction t with
  |nil=>intro i k d h;simp [Go.Ev.jx] at h
  |cons a r ih=>
   intro i k d h
   cases k with
   |zero=>
    simp only [Go.Ev.jx,TA,SL] at h
    split at h
    ·exact .inr (by simp [h])
    ·exact .inl h.symm
   |succ k=>simp only [Go.Ev.jx,TH] at h;simpa using ih _ _ _ h
 refine ⟨by rw [len];exact h.1,fun k d v p q=> ?_⟩
 rcases MW t i k d p with rfl|e
 ·exact .undef v
 ·exact h.2 k d v e q
theorem bS.set {M:MM} {t:List D} {vs:Array Value} (h:bS M t vs) {i:Nat} {d:D} {v:Value} (hr:bk M d v):bS M (t.set i d) (vs.setIfInBounds i v):=by
 refine ⟨by simp [h.1],fun k d' v' p q=> ?_⟩
 by_cases e:k=i
 ·subst e
  have LN:k<t.length:=by
   rcases SY k t.length with x|x
   ·exact x
   ·rw [SN (by simpa using x)] at p;cases p
  have Pf:k<vs.size:=by rw [← h.1];exact LN
  simp [LN] at p
  simp [Pf] at q
  subst p q
  exact hr
 ·rw [List.getElem?_set_ne (Ne.symm e)] at p
  rw [Array.getElem?_setIfInBounds_ne (Ne.symm e)] at q
  exact h.2 k d' v' p q
theorem bS.kQ {M:MM} :∀ {ps:List Nat} {args:List D} {vs:List Value} {t:List D} {tv:Array Value},bS M t tv→args.length=vs.length→(∀(i:Nat) (d:D) (v:Value),args[i]? =some d→vs[i]? =some v→bk M d v)→
  bS M (kQ t (ps.zip args)) ((ps.zip vs).foldl (fun tmps (x:Nat×Value)=>tmps.setIfInBounds x.1 x.2) tv)
 | [],args,vs,t,tv,h,hl,hr=>by simpa [Go.Ev.kQ] using h
 |p::ps,[],[],t,tv,h,hl,hr=>by simpa [Go.Ev.kQ] using h
 |p::ps,[],v::vs,t,tv,h,hl,hr=>by simp at hl
 |p::ps,d::args,[],t,tv,h,hl,hr=>by simp at hl
 |p::ps,d::args,v::vs,t,tv,h,hl,hr=>by
  simp only [List.zip_cons_cons,Go.Ev.kQ,List.foldl_cons]
  exact bS.kQ (h.set (hr 0 d v rfl rfl)) (by simpa using hl) (fun i d' v' a b=>hr (i+1) d' v' (by simpa using a) (by simpa using b))
theorem ba.range {g:Operand} {ps:Array Tmp} {ag bd:Code} {t:List D} {s:List Ob} {gf:FuncId} {first cap:List D} {aD:List Nat} {d:D} {s2:List Ob} {k:Lk} {t5:List D} {Ph:Array Nat} {O4 O8:Code} {ex:Ex}
  (hg:bR t g= .fn (.func gf) first cap) (LV:af P gf (first++(.hE s.length::cap)) (s++ [.lp .ready (jx aD 0 t) ps ag bd]) d s2) (hk:s2.getD s.length .dead= .lp k t5 Ph O4 O8)
  (hex:(k= .ready∧ex= .norm)∨(k= .ret∧ex= .ret)∨∃i,k= .exit i∧ex= .exit i):ba P false (.rangeFunc g ps ag bd) t s ex t (s2.set s.length .dead):=by
 have hlen:=LV.len
 rw [SS,List.length_singleton] at hlen
 refine ⟨fun rr NS K w0 M own w a hw hu ht hd=> ?_,by rw [Tj];omega⟩
 obtain rfl:=NS rfl
 have MA:=m6 ht g
 rw [hg] at MA
 generalize hfv:a.eval g=fval at MA
 cases MA with
 |fn h1 h2 r1 r2=>
  rename_i fv cv
  refine wpIn_rangeFunc ?_
  intro fn _
  have PT:=hw.JD
  obtain ⟨rec,hrec⟩:∃rec:Loop,rec= { state:= .ready,pending:=none,fn,tmps:=a.tmps,params:=ps,assign:=ag,body:=bd,defers:=w.heap.size } :=⟨_,rfl⟩
  have Qi:=M.sW w.heap.size
  have N8:(M.nS w.heap.size).box s.length=none:=hu.1 _ (SP _)
  have hhs:∀v,(M.nS w.heap.size).bl s.length v=none:=fun v=>hu.2 _ v (SP _)
  have Od:=PT.JE (k:= .ready) (t:=jx aD 0 t) (r:=rec) N8 hhs (by rw [hrec];rfl) (fun _=>by rw [hrec];rfl) (by rw [hrec];exact (ht.mono Qi).jx 0)
  have NC:=MM.dw (b:=(w.alloc (.deferred (some []))).heap.size) N8
  have LR:(w.alloc (.deferred (some []))).heap.size=w.heap.size+1:=World.size_alloc _ _
  rw [show rec.params=ps by rw [hrec],show rec.assign=ag by rw [hrec],show rec.body=bd by rw [hrec],← nW] at Od
  have Na:((M.nS w.heap.size).bc s.length (w.alloc (.deferred (some []))).heap.size).upto (s++ [Ob.lp .ready (jx aD 0 t) ps ag bd]).length:=by
   rw [SS,List.length_singleton]
   refine ⟨fun i hi=> ?_,fun i v hi=>hu.2 i v (by omega)⟩
   simp only [MM.bc,if_neg (show ¬i=s.length by omega)]
   exact hu.1 i (by omega)
  have LU:bS ((M.nS w.heap.size).bc s.length (w.alloc (.deferred (some []))).heap.size) (first++(.hE s.length::cap)) ((fv++ #[.func (.yield (w.heap.size+1)) #[] #[]])++cv):=by
   rw [Array.append_assoc]
   refine bS.append (bS.mono ⟨h1,r1⟩ (Qi.trans NC)) ?_
   rw [show (D.hE s.length::cap)= [D.hE s.length]++cap from rfl]
   refine bS.append ⟨rfl,fun i d v p q=> ?_⟩ (bS.mono ⟨h2,r2⟩ (Qi.trans NC))
   cases i with
   |zero=>
    simp at p q
    subst p q
    exact .hE (by simp [MM.bc,LR])
   |succ i=>simp at p
  obtain ⟨fnc,code,e1,e2,e3⟩:=LV.FB
  refine ⟨w.heap.size+1,[{ target:= .collected w.heap.size,args:= #[] }],(w.alloc (.deferred (some []))).alloc (.loop rec),_,_,gf,(fv++ #[.func (.yield (w.heap.size+1)) #[] #[]])++cv,(w.alloc (.deferred (some []))).alloc (.loop rec),?_,sd hfv _,fun _ _=>trivial,?_,fun e=>(by cases e),?_⟩
  ·rw [hrec];exact run_enterLoop_outer _ _ _ _ _
  ·simp only [invoke,callFunc,SZ,run_program,Result.andThen_ok,e1,e3,Bool.false_eq_true,if_false,e2,Option.isNone_some,S9]
  have Pk:CallsIn (FW none) (0 - 1) P gf ((fv++ #[.func (.yield (w.heap.size+1)) #[] #[]])++cv) ((w.alloc (.deferred (some []))).alloc (.loop rec)) _:=(callsIn_wide (n:=0)).2 (LV.run w0 _ _ _ _ Od Na LU)
  refine Pk.mono ?_
  rintro e w3 ⟨v,M',LB,rfl,q1,q2,q3,q4⟩
  have Ok:M.Le M':=(Qi.trans NC).trans q3
  obtain ⟨l,r,q⟩:=q1.lp s.length k t5 Ph O4 O8 hk
  have Rn:M'.box s.length=some (w.heap.size+1):=q3.box _ _ (by simp [MM.bc,LR])
  have el:l=w.heap.size+1:=by have:=q.box;rw [Rn] at this;exact (SE this).symm
  subst el
  have RC:k≠ .busy:=by rcases hex with ⟨rfl,_⟩|⟨rfl,_⟩|⟨i,rfl,_⟩<;>(intro e;cases e)
  have LL:r.state≠ .busy:=by
   rw [q.st]
   rcases hex with ⟨rfl,_⟩|⟨rfl,_⟩|⟨i,rfl,_⟩<;>(intro e;cases e)
  have QX:=q1.DS (k':= .ready) (r':= { r with state:= .exhausted }) q .dead (.inl rfl)
  have LN:s.length<s2.length:=by omega
  rw [← kM LN] at QX
  have hd4:gk K M' ({ target:= .collected w.heap.size,args:= #[] } ::a.defers):=by
   obtain ⟨k0,bs,b1,b2,b3⟩:=hd
   have Mq:∀b,M.eB b→b≠w.heap.size:=fun b hb e=>by
    have:=(hw.eB b hb).2
    rw [e] at this
    simp at this
   refine ⟨fun b hb=>Ok.eB b (k0 b hb),w.heap.size::bs,by rw [b1];rfl,List.nodup_cons.2 ⟨fun hm=>Mq _ (b3 _ hm).1 rfl,b2⟩,?_⟩
   intro b hb
   rcases TJ.1 hb with rfl|hb
   ·exact ⟨q3.eB _ (NC.eB _ (.inr rfl)),fun hK=>Mq _ (k0 _ hK) rfl⟩
   ·exact ⟨Ok.eB b (b3 b hb).1,(b3 b hb).2⟩
  have fin:∃M' LB,bw w0 M' LB (bo (s2.set s.length .dead)) (bh w3 (w.heap.size+1) (.loop { r with state:= .exhausted }))∧M'.upto (s2.set s.length .dead).length∧M.Le M'∧bS M' t a.tmps∧gk K M' ({ target:= .collected w.heap.size,args:= #[] } ::a.defers):=
   ⟨M',LB,QX,by rw [Tj];exact q2,Ok,ht.mono Ok,hd4⟩
  refine ⟨k.GD,bh w3 (w.heap.size+1) (.loop { r with state:= .exhausted }),?_,?_⟩
  ·rw [← q.pd RC]
   exact run_endLoop (P:=P) q.cy LL
  ·rcases hex with ⟨rfl,rfl⟩|⟨rfl,rfl⟩|⟨i,rfl,rfl⟩
   ·exact ⟨trivial,fin⟩
   ·exact wpIn_ret ⟨trivial,fin⟩
   ·exact wpIn_exit ⟨rfl,fin⟩
variable {ρ':Type} {r:ρ'}
theorem eH {inl:A3 P ρ'} (Mn:jY P inl) (hm:P.follows .mixedOrders=true):∀ {rd:Bool} (c:Code) {t:List D} {s:List Ob} {z:Z P} {K:Ex→List D→List Ob→Z P→Option ρ'},e8 P inl rd c t s z K=some r→
  ∃ex t' s' z',K ex t' s' z'=some r∧(z'.c→z.c∧ba P rd c t s ex t' s')
 |rd,.skip,t,s,z,K,h=>⟨_,_,_,z,by simpa only [e8] using h,fun c=>⟨c,.skip t s⟩⟩
 |rd,.label l,t,s,z,K,h=>⟨_,_,_,z,by simpa only [e8] using h,fun c=>⟨c,.label l t s⟩⟩
 |rd,.exit i,t,s,z,K,h=>⟨_,_,_,z,by simpa only [e8] using h,fun c=>⟨c,.exit i t s⟩⟩
 |rd,.ret,t,s,z,K,h=>⟨_,_,_,z,by simpa only [e8] using h,fun c=>⟨c,.Ks t s⟩⟩
 |rd,.scope x,t,s,z,K,h=>by
  rw [e8] at h
  obtain ⟨ex,t',s',z',h1,h2⟩:=eH Mn hm x h
  exact ⟨ex,t',s',z',h1,fun c=>⟨(h2 c).1,(h2 c).2.scope⟩⟩
 |rd,.region id ops draw,t,s,z,K,h=>by
  rw [e8] at h
  obtain ⟨tr,t',s',z',h1,h2⟩:=ff Mn h
  split at h1
  ·exact ⟨_,_,_,z',h1,fun c=>⟨(h2 c).1,.text (h2 c).2⟩⟩
  ·obtain ⟨hd,h1⟩:=bg h1
   exact ⟨_,_,_,z',h1,fun c=>⟨(h2 c).1,.draw hm (h2 c).2 hd⟩⟩
 |rd,.seq x y,t,s,z,K,h=>by
  rw [e8] at h
  obtain ⟨ex,t1,s1,z1,h1,h2⟩:=eH Mn hm x h
  split at h1
  ·obtain ⟨ex',t2,s2,z2,h3,h4⟩:=eH Mn hm y h1
   exact ⟨ex',t2,s2,z2,h3,fun c=>⟨(h2 (h4 c).1).1,(h2 (h4 c).1).2.Ko (h4 c).2⟩⟩
  ·rename_i ME
   exact ⟨_,_,_,z1,h1,fun c=>⟨(h2 c).1,(h2 c).2.Kn ME⟩⟩
 |rd,.cond q x y,t,s,z,K,h=>by
  rw [e8] at h
  split at h
  ·rename_i b hb
   obtain ⟨z1,⟨h1,h2⟩|⟨h1,h2⟩⟩:=kq h
   ·obtain ⟨ex,t',s',z',h3,h4⟩:=eH Mn hm x h1
    exact ⟨ex,t',s',z',h3,fun c=>⟨(h2 (h4 c).1).1,.cond (b:=true) (by rw [hb,(h2 (h4 c).1).2]) (h4 c).2⟩⟩
   ·obtain ⟨ex,t',s',z',h3,h4⟩:=eH Mn hm y h1
    exact ⟨ex,t',s',z',h3,fun c=>⟨(h2 (h4 c).1).1,.cond (b:=false) (by rw [hb,(h2 (h4 c).1).2]) (h4 c).2⟩⟩
  ·cases h
 |rd,.block id x,t,s,z,K,h=>by
  rw [e8] at h
  split at h
  ·rename_i sp n0 c' t1 s1 ex t2 s2 hg rest _
   split at h
   ·rename_i t' s' hh
    obtain ⟨hn,h'⟩:=bg h
    rw [S8] at hn
    subst hn
    obtain ⟨z',h1,h2⟩:=nE h'
    exact ⟨ex,t2,s2,_,h1,fun q=>have k:=(h2 q).1;⟨k.2,.Aw (k.1.1▸k.1.2.1▸k.1.2.2▸hg) hh (h2 q).2⟩⟩
   ·cases h
  ·obtain ⟨ex,t1,s1,z1,h1,h2⟩:=eH Mn hm x h
   split at h1
   ·rename_i i
    split at h1
    ·rename_i hi
     have hi:i=id:=by simpa using hi
     subst hi
     exact ⟨_,_,_,z1,h1,fun c=>⟨(h2 c).1,(h2 c).2.IZ⟩⟩
    ·rename_i hi
     have hi:i≠id:=fun e=>by subst e;simp at hi
     exact ⟨_,_,_,z1,h1,fun c=>⟨(h2 c).1,(h2 c).2.FK fun j hj=>by cases hj;exact hi⟩⟩
   ·rename_i ME
    exact ⟨_,_,_,z1,h1,fun c=>⟨(h2 c).1,(h2 c).2.FK fun j hj=>absurd hj (ME j)⟩⟩
 |rd,.loop x,t,s,z,K,h=>by
  rw [e8] at h
  split at h
  ·obtain ⟨ex,t',s',z',h1,h2⟩:=wY (c:=x) (fun h=>eH Mn hm x h) h
   exact ⟨ex,t',s',z',h1,fun k=>⟨(h2 k).1,.ft (h2 k).2⟩⟩
  ·rename_i sp n0 c' t1 s1 ex t2 s2 hg rest _
   split at h
   ·rename_i t' s' hh
    obtain ⟨hn,h'⟩:=bg h
    rw [S8] at hn
    subst hn
    obtain ⟨z',h1,h2⟩:=nE h'
    exact ⟨ex,t2,s2,_,h1,fun q=>have k:=(h2 q).1;⟨k.2,.Aw (k.1.1▸k.1.2.1▸k.1.2.2▸hg) hh (h2 q).2⟩⟩
   ·cases h
  ·rename_i c' t1 s1 ex t2 s2 hg rest _
   exact ⟨ex,t2,s2,_,h,fun k=>⟨k.2,.any (k.1.1▸k.1.2.1▸k.1.2.2▸hg) _⟩⟩
  ·cases h
 |rd,.rangeFunc g ps ag bd,t,s,z,K,h=>by
  rw [e8] at h
  split at h
  ·split at h
   ·rename_i gf first cap hg
    rw [fu,oa] at h
    obtain ⟨d,s2,z1,h1,h2⟩:=Mn (.fn gf) _ _ _ _ r h
    split at h1
    ·rename_i hk
     rw [gN] at h1
     exact ⟨_,_,_,z1,h1,fun c=>⟨(h2 c).1,ba.range hg (h2 c).2 hk (.inl ⟨rfl,rfl⟩)⟩⟩
    ·rename_i hk
     rw [gN] at h1
     exact ⟨_,_,_,z1,h1,fun c=>⟨(h2 c).1,ba.range hg (h2 c).2 hk (.inr (.inl ⟨rfl,rfl⟩))⟩⟩
    ·rename_i hk
     rw [gN] at h1
     exact ⟨_,_,_,z1,h1,fun c=>⟨(h2 c).1,ba.range hg (h2 c).2 hk (.inr (.inr ⟨_,rfl,rfl⟩))⟩⟩
    ·cases h1
   ·cases h
  ·rename_i c' t1 s1 ex t2 s2 hg rest _
   exact ⟨ex,t2,s2,_,h,fun k=>⟨k.2,.any (k.1.1▸k.1.2.1▸k.1.2.2▸hg) _⟩⟩
  ·cases h
 |rd,.goto l,t,s,z,K,h=>by
  rw [e8] at h
  split at h
  ·rename_i c' t1 s1 ex t2 s2 hg rest _
   exact ⟨ex,t2,s2,_,h,fun k=>⟨k.2,.any (k.1.1▸k.1.2.1▸k.1.2.2▸hg) _⟩⟩
  ·cases h
  all_goals (intros;rename_i q;cases q)
 |rd,.refuse y,t,s,z,K,h=>by
  rw [e8] at h
  split at h
  ·rename_i c' t1 s1 ex t2 s2 hg rest _
   exact ⟨ex,t2,s2,_,h,fun k=>⟨k.2,.any (k.1.1▸k.1.2.1▸k.1.2.2▸hg) _⟩⟩
  ·cases h
  all_goals (intros;rename_i q;cases q)
def BA (tmps:Array Value):ResultVar→Sem Value
  | .tmp t=>pure (tmps.getD t undef)
  | .cell a t=>do loadVar t (← asAddr (tmps.getD a undef))
theorem x7 (fn:Func) (tmps:Array Value):results fn tmps=(do
  let vs ← fn.results.mapM (BA tmps)
  pure (if h:vs.size=1 then vs[0] else .tuple vs)):=by
 unfold results
 rfl
theorem x8 {w0:dq} {M:MM} {own:Nat→Option Nat} {w:World} {t:List D} {s:List Ob} {tmps:Array Value} (hw:bw w0 M own (bo s) w) (ht:bS M t tmps) {x:ResultVar} {d:D} (h:uE P t s x=some d):
  ∃v,bk M d v∧(BA tmps x).run P w= .ok v w:=by
 cases x with
 |tmp i=>
  simp only [uE,SL] at h
  subst h
  exact ⟨_,iR ht i,by simp [BA]⟩
 |cell a ty=>
  simp only [uE] at h
  split at h
  ·rename_i dyn id off hp
   split at h
   ·rename_i cs hb
    have hx:=iR ht a
    rw [hp] at hx
    generalize hv:tmps.getD a undef=v at hx
    cases hx with
    |ptr _ N8=>
     rename_i b'
     obtain ⟨b,vs,tt,k⟩:=hw.box id cs hb
     rw [k.box] at N8
     obtain rfl:=SE N8
     have Nk:∀j c,cs[j]? =some c→w.cell? ⟨b,0+j,none⟩=some (vs.getD j .nilFunc)∧bk M c (vs.getD j .nilFunc):=by
      intro j c hj
      obtain ⟨u,hu,hru⟩:=lL k.len k.rep hj
      rw [Array.getD_eq_getD_getElem?,hu]
      refine ⟨?_,hru⟩
      simp [World.cell?,k.cy,hu]
     have Sa:lC P ty cs off d:=by
      split at h
      ·rename_i e he
       split at h
       ·rename_i ha
        split at h
        ·rename_i hk
         simp only [SG,TF] at hk
         exact ⟨e,he,.inl ⟨ha,hk.2,(SE h).symm⟩⟩
        ·cases h
       ·rename_i ha
        exact ⟨e,he,.inr ⟨ha,h⟩⟩
      ·cases h
     obtain ⟨u,h1,h2⟩:=iX Sa (fun j=>vs.getD j .nilFunc) Nk
     rw [Ti] at h1
     refine ⟨u,h2,?_⟩
     simp only [BA,hv,asAddr,SZ,S9,Result.andThen_ok,h1]
   ·cases h
  ·cases h
theorem wv {w0:dq} {M:MM} {own:Nat→Option Nat} {w:World} {t:List D} {s:List Ob} {tmps:Array Value} (hw:bw w0 M own (bo s) w) (ht:bS M t tmps):∀ {l:List ResultVar} {ds:List D},x9 P t s l=some ds→
  ∃vs:List Value,ds.length=vs.length∧(∀(i:Nat) (d:D) (v:Value),ds[i]? =some d→vs[i]? =some v→bk M d v)∧Sem.run P (List.mapM (BA tmps) l) w= .ok vs w
 | [],ds,h=>by
  simp only [x9,SL] at h
  subst h
  exact ⟨[],rfl,fun i d v h=>by simp at h,by simp⟩
 |x::l,ds,h=>by
  simp only [x9] at h
  split at h
  ·rename_i d Rk hd hl
   obtain rfl:=SE h
   obtain ⟨v,h1,h2⟩:=x8 hw ht hd
   obtain ⟨vs,k1,k2,k3⟩:=wv hw ht hl
   refine ⟨v::vs,by simp [k1],?_,?_⟩
   ·intro i d' v' a b
    cases i with
    |zero=>simp at a b;subst a b;exact h1
    |succ i=>simp at a b;exact k2 i d' v' a b
   ·rw [List.mapM_cons,SZ,h2,Result.andThen_ok,SZ,k3,Result.andThen_ok,S9]
  ·cases h
theorem wu {w0:dq} {M:MM} {own:Nat→Option Nat} {w:World} {t:List D} {s:List Ob} {tmps:Array Value} {fn:Func} (hw:bw w0 M own (bo s) w) (ht:bS M t tmps) {ds:List D} (h:x9 P t s fn.results.toList=some ds):
  ∃v,bk M (ya ds) v∧(results fn tmps).run P w= .ok v w:=by
 obtain ⟨vs,k1,k2,k3⟩:=wv hw ht h
 have e:(results fn tmps).run P w= .ok (if h:vs.length=1 then vs[0] else .tuple vs.toArray) w:=by
  have hr:fn.results=fn.results.toList.toArray:=by simp
  rw [x7,hr,List.mapM_toArray,SZ]
  rw [show (List.toArray<$>List.mapM (BA tmps) fn.results.toList:Sem (Array Value)).run P w= .ok vs.toArray w by
   rw [map_eq_pure_bind,SZ,k3];simp]
  simp
 refine ⟨_,?_,e⟩
 cases ds with
 |nil=>
  cases vs with
  |nil=>simp only [ya];exact .aC rfl (fun i d v a=>by simp at a)
  |cons a b=>simp at k1
 |cons d ds=>
  cases ds with
  |nil=>
   cases vs with
   |nil=>simp at k1
   |cons a b=>
    cases b with
    |nil=>simp only [ya];exact k2 0 d a rfl rfl
    |cons b c=>simp at k1
  |cons d2 ds=>
   cases vs with
   |nil=>simp at k1
   |cons a b=>
    cases b with
    |nil=>simp at k1
    |cons b c=>simp only [ya];exact .aC (by simpa using k1) (fun i d v p q=>k2 i d v p (by simpa using q))
theorem nq {fn:Func} {tmps:Array Value} {R:Ending→World→Prop} {w0:dq} {own:Nat→Option Nat} {σ:Nat→Ob} :∀(bs:List Nat) {M:MM} {w:World},bw w0 M own σ w→bs.Nodup→(∀b∈bs,M.eB b)→
  (∀(f:Nat→Prop) (w2:World),(∀b,M.eB b→b∉bs→f b)→bw w0 { M with eB:=f } own σ w2→∃v,(results fn tmps).run P w2= .ok v w2∧R (.returned v) w2)→
  LeavesInM Fence.wide 0 P fn tmps R (bs.map fun b=> { target:= .collected b,args:= #[] }) .returning w
 | [],M,w,hw,_,_,h=>h M.eB w (fun _ hb _=>hb) hw
 |b::bs,M,w,hw,hn,hb,h=>by
  obtain ⟨OZ,O6⟩:=List.nodup_cons.1 hn
  refine ⟨fun e=>(by cases e),.inl ⟨b,_,rfl,run_takeDeferred (hw.eB b (hb b (by simp))).2,?_⟩⟩
  refine nq bs (hw.uh (hb b (by simp))) O6 (fun c hc=>⟨hb c (by simp [hc]),fun e=>OZ (e▸hc)⟩) fun f w2 hf Od=> ?_
  exact h f w2 (fun c hc hm=>hf c ⟨hc,fun e=>hm (by simp [e])⟩ (fun Rb=>hm (by simp [Rb]))) Od
theorem tA {inl:A3 P ρ'} (Mn:jY P inl) (hm:P.follows .mixedOrders=true) {f:FuncId} {fn:Func} (hf:P.funcs[f]? =some fn) (hn:(fn.name== "runtime.NumGoroutine")=false)
  {args:List D} {s:List Ob} {z:Z P} {K:D→List Ob→Z P→Option ρ'} (h:tB P inl fn args s z K=some r):∃d s' z',K d s' z'=some r∧(z'.c→z.c∧af P f args s d s'):=by
 unfold tB at h
 split at h
 ·rename_i c hc
  obtain ⟨hle,h⟩:=bg h
  rw [fu] at h
  obtain ⟨ex,t',s',z',h1,h2⟩:=eH (rd:=false) Mn hm c h
  have main:∀ {l},x9 P t' s' fn.results.toList=some l→(∀i,ex≠ .exit i)→ba P false c (args++List.replicate (fn.ntmps - args.length) .undef) s ex t' s'→af P f args s (ya l) s':=by
   intro l hl hex LV
   refine ⟨⟨fn,c,hf,hc,hn⟩,LV.len,?_⟩
   intro w0 M own w vs hw hu ha
   refine (callsIn_wide (n:=0)).1 (callsIn_of_wp_marks hf hc trivial (wpIn_mono (LV.run none (fun _=>rfl) M.eB w0 M own w _ hw hu ?_ ⟨fun _ h=>h,[],rfl,List.nodup_nil,fun b hb=>by cases hb⟩) ?_))
   ·refine ha.append ⟨by simp [ha.1],fun i d v p q=> ?_⟩
    rw [List.getElem?_replicate] at p
    split at p
    ·obtain rfl:=SE p;exact .undef v
    ·cases p
   ·rintro e a' w' ⟨h0,M',LB,q1,q2,q3,q4,_,bs,b1,b2,b3⟩
    have fin:LeavesInM Fence.wide 0 P fn a'.tmps (fun e w'=> ∃v M' LB,e= .returned v∧bw w0 M' LB (bo s') w'∧M'.upto s'.length∧M.Le M'∧bk M' (ya l) v) a'.defers .returning w':=by
     rw [b1]
     refine nq bs q1 b2 (fun b hb=>(b3 b hb).1) fun f w2 PM Od=> ?_
     have q4':bS { M' with eB:=f } t' a'.tmps:=⟨q4.1,fun i d v p q=>(q4.2 i d v p q).JC⟩
     obtain ⟨v,r1,r2⟩:=wu Od q4' hl
     exact ⟨v,r2,v,_,LB,rfl,Od,⟨q2.1,q2.2⟩,⟨q3.cell,q3.box,q3.bl,fun b hb=>PM b (q3.eB b hb) (fun hm=>(b3 b hm).2 hb)⟩,r1⟩
    cases ex with
    |exit i=>exact absurd rfl (hex i)
    |norm=>cases e<;>simp only [Ex.is] at h0;exact fin
    |ret=>cases e<;>simp only [Ex.is] at h0;exact fin
  split at h1
  ·cases h1
  ·rename_i hex
   split at h1
   ·rename_i l hl
    exact ⟨_,_,z',h1,fun c=>⟨(h2 c).1,main hl (fun i hi=>hex i hi) (h2 c).2⟩⟩
   ·cases h1
 ·cases h
theorem xY {inl:A3 P ρ'} (Mn:jY P inl) (hm:P.follows .mixedOrders=true) {id:Nat} {args:List D} {s:List Ob} {z:Z P} {K:D→List Ob→Z P→Option ρ'} (h:xZ P inl id args s z K=some r):
  ∃d s' z',K d s' z'=some r∧(z'.c→z.c∧vP P id args s d s'):=by
 unfold xZ at h
 split at h
 ·rename_i t ps ag bd hs
  obtain ⟨hle,h⟩:=bg h
  rw [S8] at hle
  rw [fu] at h
  obtain ⟨ex,t2,s2,z1,h1,h2⟩:=eH (rd:=true) Mn hm ag h
  split at h1
  ·split at h1
   ·rename_i t' Q9 Ri Ra Ot
    rw [gN] at h1
    obtain ⟨ex2,t4,s4,z2,h3,h4⟩:=eH (rd:=true) Mn hm bd h1
    split at h3
    ·rename_i t5 Ph O4 O8 Sd
     have main:∀(k:Lk) (j:Option Code),((ex2= .norm∧k= .ready∧j=none)∨(ex2= .ret∧k= .ret∧j=some .ret)∨∃i,ex2= .exit i∧k= .exit i∧j=some (.exit i))→
       ba P true ag (kQ t (ps.toList.zip args)) s .norm t2 s2→ba P true bd t2 (s2.set id (.lp .busy t' Q9 Ri Ra)) ex2 t4 s4→vP P id args s (.bool j.isNone) (s4.set id (.lp k t5 Ph O4 O8)):=by
      intro k j RY PO OG
      have Pr:=OG.len
      rw [Tj] at Pr
      refine ⟨by rw [Tj];exact Nat.le_trans PO.len Pr,?_⟩
      intro w0 M own w vs l hw hu ha hb
      obtain ⟨l',rc,q⟩:=hw.lp id _ _ _ _ _ hs
      obtain rfl:l'=l:=by have:=q.box;rw [hb] at this;exact (SE this).symm
      have LR:vs.size=rc.params.size:=by rw [← ha.1,hle,q.ps]
      refine ⟨_,_,_,_,run_yield q.cy LR,?_⟩
      have htm:bS M (kQ t (ps.toList.zip args)) ((rc.params.zip vs).foldl (fun tmps (x:Nat×Value)=>tmps.setIfInBounds x.1 x.2) rc.tmps):=by
       have:=bS.kQ (ps:=ps.toList) (args:=args) (vs:=vs.toList) q.tm (by rw [ha.1];simp) (fun i d v p u=>ha.2 i d v p (by simpa using u))
       rw [q.ps,← Array.foldl_toList,Array.toList_zip]
       exact this
      refine roundIn_of_wpIn (F:=Fence.wide) (n:=0) trivial ?_
      rw [q.ag,q.bd]
      refine wpIn_mono (PO.run (some l') (fun e=>by cases e) M.eB w0 M own w _ hw hu htm ⟨fun _ h=>h,[],rfl,List.nodup_nil,fun b hb=>by cases hb⟩) ?_
      rintro e a1 w1 ⟨h0,M1,own1,q1,q2,q3,q4,q5⟩
      cases e<;>simp only [Ex.is] at h0
      obtain ⟨l1,rc1,p1⟩:=q1.lp id _ _ _ _ _ Ot
      obtain rfl:l1=l':=by have:=p1.box;rw [q3.box _ _ hb] at this;exact (SE this).symm
      have Pf:=cX (s:=s2) (i:=id) (by rw [Ot];simp)
      have Od:=q1.DS (k':= .busy) (r':= { rc1 with state:= .busy }) p1 (.lp .busy t' Q9 Ri Ra) (.inr ⟨rfl,rfl,fun e=>absurd rfl e,rfl,rfl,rfl,rfl⟩)
      rw [← kM Pf] at Od
      refine ⟨_,run_beginRound p1.cy p1.st,?_⟩
      refine wpIn_mono (OG.run (some l1) (fun e=>by cases e) M.eB w0 M1 own1 _ a1 Od (by rw [Tj];exact q2) q4 q5) ?_
      rintro e2 a2 w3 ⟨Pu,M2,Nu,u1,u2,u3,u4,u5⟩
      obtain ⟨l2,rc2,p2⟩:=u1.lp id _ _ _ _ _ Sd
      obtain rfl:l2=l1:=by have:=p2.box;rw [u3.box _ _ (q3.box _ _ hb)] at this;exact (SE this).symm
      have Rt:=cX (s:=s4) (i:=id) (by rw [Sd];simp)
      have QX:=u1.DS (k':=k) (r':= { rc2 with state:=if j.isNone then .ready else .done,pending:=j }) p2 (.lp k t5 Ph O4 O8) (.inr ⟨rfl,by
       rcases RY with ⟨_,rfl,rfl⟩|⟨_,rfl,rfl⟩|⟨i,_,rfl,rfl⟩<;>rfl,fun _=>by
       rcases RY with ⟨_,rfl,rfl⟩|⟨_,rfl,rfl⟩|⟨i,_,rfl,rfl⟩<;>rfl,rfl,rfl,rfl,rfl⟩)
      rw [← kM Rt] at QX
      have fin:∃v w',(Instr.endRound l2 j).run P w3= .ok v w'∧∃v' M' LB,Ending.returned v= .returned v'∧bw w0 M' LB (bo (s4.set id (.lp k t5 Ph O4 O8))) w'∧M'.upto (s4.set id (.lp k t5 Ph O4 O8)).length∧M.Le M'∧bk M' (.bool j.isNone) v':=
       ⟨_,_,run_endRound j p2.cy,_,M2,Nu,rfl,QX,by rw [Tj];exact u2,q3.trans u3,.bool _⟩
      rcases RY with ⟨rfl,rfl,rfl⟩|⟨rfl,rfl,rfl⟩|⟨i,rfl,rfl,rfl⟩
      ·cases e2<;>simp only [Ex.is] at Pu
       exact fin
      ·cases e2<;>simp only [Ex.is] at Pu
       exact fin
      ·cases e2<;>simp only [Ex.is] at Pu
       subst Pu
       exact fin
     split at h3
     ·rw [gN] at h3
      exact ⟨_,_,z2,h3,fun c=>⟨(h2 (h4 c).1).1,main .ready none (.inl ⟨rfl,rfl,rfl⟩) (h2 (h4 c).1).2 (h4 c).2⟩⟩
     ·rw [gN] at h3
      exact ⟨_,_,z2,h3,fun c=>⟨(h2 (h4 c).1).1,main .ret (some .ret) (.inr (.inl ⟨rfl,rfl,rfl⟩)) (h2 (h4 c).1).2 (h4 c).2⟩⟩
     ·rename_i i
      rw [gN] at h3
      exact ⟨_,_,z2,h3,fun c=>⟨(h2 (h4 c).1).1,main (.exit i) (some (.exit i)) (.inr (.inr ⟨i,rfl,rfl,rfl⟩)) (h2 (h4 c).1).2 (h4 c).2⟩⟩
    ·cases h3
   ·cases h1
  ·cases h1
 ·cases h
theorem hZ (hm:P.follows .mixedOrders=true):∀n:Nat,jY P (qP (ρ:=ρ') P n)
 |0=>fun g args s z K r h=>by simp [qP] at h
 |n+1=>fun g args s z K r h=>by
  rw [qP] at h
  simp only [] at h
  cases g with
  |fn f=>
   simp only [] at h
   split at h
   ·rename_i fn hf
    obtain ⟨hn,h⟩:=bg h
    exact tA (hZ hm n) hm hf (by simpa using hn) h
   ·cases h
  |yl id=>
   simp only [] at h
   exact xY (hZ hm n) hm h
end
section
variable {P:Program}
theorem oM {M:MM} {s:List Ob} {d:D} {v:Value} (h:bk M d v) (hc:d.clean=true):bk (eY M.cell) (jr s d) v:=by
 unfold jr
 split
 ·rename_i id ver sz xs
  have h1:=h.nT hc
  have:∀o:jI,(o= .no∨∃k,o= .fresh k)→bk (eY M.cell) (.aj o sz xs) v:=by
   intro o ho
   cases h1 with
   |aj b off vs hl LH ha LR L7 hr LL _=>exact .aj b off vs hl LH ha LR L7 hr LL (by rcases ho with rfl|⟨k,rfl⟩<;>trivial)
  split
  ·split
   ·exact this _ (.inr ⟨_,rfl⟩)
   ·exact this _ (.inl rfl)
  ·exact this _ (.inl rfl)
 ·exact h.nT hc
theorem vx {d:D} {sz L4:Nat} {xs:List D} :d.aR≠ .aj (.fresh sz) L4 xs:=by
 intro h
 cases d<;>simp only [D.aR,reduceCtorEq] at h
 case aj o _ _=>cases o<;>simp [jI.aR] at h
theorem mq {w0:dq} (hX:∀b,¬w0.X b→w0.w.heap.size≤b) {M:MM} {own:Nat→Option Nat} {w:World} {s:List Ob} (hw:bw w0 M own (bo s) w) {d:D} {v:Value} (h:bk M d v) {sz L4:Nat} {xs:List D} (e:jr s d= .aj (.fresh sz) L4 xs):
  ∃a len cap,v= .slice a len cap∧L4=sz∧iU w0.w.heap.size w M.cell sz a len cap:=by
 unfold jr at e
 split at e
 ·rename_i id ver R0 RL
  split at e
  ·rename_i v' Ng hs
   split at e
   ·rename_i hb
    simp only [SG,S8] at hb
    obtain ⟨rfl,rfl⟩:=hb
    simp only [D.aj.injEq,jI.fresh.injEq] at e
    obtain ⟨rfl,rfl,rfl⟩:=e
    obtain ⟨a,len,cap,k⟩:=hw.bO id ver R0 hs
    cases h with
    |aj b off vs hl LH ha LR L7 hr LL ho=>
     have:M.bl id ver=some _:=ho
     rw [k.bl] at this
     obtain ⟨rfl,rfl,rfl⟩:=Value.slice.inj (SE this)
     refine ⟨_,_,_,rfl,rfl,?_⟩
     rcases k.room with q|⟨b,vs,ty,fz,q,r⟩
     ·exact .inl q
     ·exact .inr ⟨b,vs,ty,fz,q,hX _ r.base,r.cy,r.fz,r.cap,r.none⟩
   ·cases e
  ·cases e
 ·exact absurd e vx
theorem D3 {w0:dq} (hX:∀b,¬w0.X b→w0.w.heap.size≤b) {M:MM} {own:Nat→Option Nat} {w:World} {s:List Ob} (hw:bw w0 M own (bo s) w) {d:D} {v:Value} (h:bk M d v) (hc:d.clean=true):bk (eY M.cell) (Cf s d) v∧zY w0.w.heap.size w M.cell (Cf s d) v:=by
 by_cases ht:∃ds,d= .aC ds
 ·obtain ⟨ds,rfl⟩:=ht
  cases h with
  |aC hl r=>
   rename_i vs
   rw [D.clean,D.iT,Td] at hc
   refine ⟨.aC (by simpa using hl) ?_,?_,?_⟩
   ·intro i d v a b
    rw [SW,SU] at a
    obtain ⟨d0,h0,rfl⟩:=a
    exact oM (r i d0 v h0 b) (hc _ (Tb h0))
   ·intro sz L4 xs e;simp [Cf] at e
   ·intro Rk vs' e1 e2 i sz L4 xs hi
    simp only [Cf,D.aC.injEq] at e1
    obtain rfl:=Value.tuple.inj e2
    subst e1
    rw [SW,SU] at hi
    obtain ⟨d0,h0,e⟩:=hi
    have LN:i<vs.size:=by
     rw [← hl]
     rcases SY i ds.length with q|q
     ·exact q
     ·rw [SN q] at h0;cases h0
    obtain ⟨a,len,cap,k1,k2,k3⟩:=mq hX hw (r i d0 vs[i] h0 (by simp [LN])) e
    exact ⟨a,len,cap,by simp [LN,k1],k2,k3⟩
 ·have e:Cf s d=jr s d:=by
   cases d<;>first|rfl|exact absurd ⟨_,rfl⟩ ht
  rw [e]
  refine ⟨oM h hc,fun sz L4 xs q=>mq hX hw h q,fun ds vs q=> ?_⟩
  exfalso
  unfold jr at q
  split at q
  ·split at q
   ·split at q<;>cases q
   ·cases q
  ·cases d<;>simp only [D.aR,reduceCtorEq] at q
   exact ht ⟨_,rfl⟩
theorem aF.ab (hm:P.follows .mixedOrders=true) {f:FuncId} {fn:Func} (hf:P.funcs[f]? =some fn) (hn:(fn.name== "runtime.NumGoroutine")=false) {args:List D} {d:D} (o:List (Ev P))
  (h:vv P fn args o=some (d,qn o True)):aF P f args d:=by
 unfold vv at h
 obtain ⟨d0,s',z',h1,h2⟩:=tA (hZ hm 20) hm hf hn h
 obtain ⟨hc,h1⟩:=bg h1
 split at h1
 ·simp only [SL,TG] at h1
  obtain ⟨rfl,hz⟩:=h1
  have LV:=(h2 (by rw [hz];exact j4 o trivial)).2
  refine ⟨LV.FB,fun w C vs hC ha=>Calls.mono (LV.run ⟨w,C,fun k=>k<w.heap.size⟩ (eY C) (fun _=>none) w vs ?_ ⟨fun _ _=>rfl,fun _ _ _=>rfl⟩ ha) ?_⟩
  ·refine ⟨.of _,hC,?_,?_,?_,?_,?_,?_,fun b hb=>hb.elim⟩
   ·intro b o v k _;exact k
   ·intro b i k;cases k
   ·intro i cs k;simp [bo] at k
   ·intro i v sz k;simp [bo] at k
   ·intro i F q;simp [bo,Ob.CF] at q
   ·intro i k t ps ag bd q;simp [bo] at q
  ·rintro e w' ⟨v,M',LB,rfl,q1,q2,q3,q4⟩
   obtain ⟨r1,r2⟩:=D3 (fun _ h=>Nat.le_of_not_lt h) q1 q4 hc
   exact ⟨v,M'.cell,rfl,⟨q1.below.below,q3.cell,q1.iJ,q1.cells⟩,r1,r2⟩
 ·cases h1
theorem aF.cast {f:FuncId} {args PJ:List D} {d d':D} (h:aF P f args d) (ha:args=PJ) (hd:d=d'):aF P f PJ d':=ha▸hd▸h
theorem kz.ab (hm:P.follows .mixedOrders=true) {c:Code} {t:List D} {s:List Ob} {ex:Ex} {t':List D} {s':List Ob} (o:List (Ev P))
  (h:evalCode P c t s o=some ((ex,t',s'),qn o True)):kz P c t s ex t' s':=by
 unfold evalCode at h
 obtain ⟨Rm,t1,s1,z',h1,h2⟩:=eH (rd:=true) (hZ hm 20) hm c h
 split at h1
 ·simp only [SL,TG] at h1
  obtain ⟨⟨rfl,rfl,rfl⟩,hz⟩:=h1
  exact (h2 (by rw [hz];exact j4 o trivial)).2
 ·cases h1
structure aP (P:Program) (c:Code) (sp:HS) (n0:Nat) (t:List D) (s:List Ob) (ex:Ex) (t':List D) (s':List Ob):Prop where
  run:∃t1 s1,kz P c t s ex t1 s1∧nr sp n0 t1 s1=some (t',s')∧qT sp t1 s1
theorem aP.ab (hm:P.follows .mixedOrders=true) {c:Code} {sp:HS} {n0:Nat} {t:List D} {s:List Ob} {ex:Ex} {t':List D} {s':List Ob} (o:List (Ev P))
  (h:tk P c sp n0 t s o=some ((ex,t',s'),qn o True)):aP P c sp n0 t s ex t' s':=by
 unfold tk at h
 obtain ⟨Rm,t1,s1,z',h1,h2⟩:=eH (rd:=true) (hZ hm 20) hm c h
 split at h1
 ·rename_i t2 s2 hh
  obtain ⟨z2,h3,h4⟩:=nE h1
  split at h3
  ·simp only [SL,TG] at h3
   obtain ⟨⟨rfl,rfl,rfl⟩,hz⟩:=h3
   have ND:=h4 (by rw [hz];exact j4 o trivial)
   exact ⟨t1,s1,(h2 ND.1).2,hh,ND.2⟩
  ·cases h3
 ·cases h1
theorem bJ.gz {c:Code} {sp:HS} {n0:Nat} {t t2:List D} {s s2:List Ob} {ex:Ex} {t':List D} {s':List Ob} (h:aP P c sp n0 t s .norm t2 s2) (k:bJ P c n0 t2 s2 ex t' s'):bJ P c n0 t s ex t' s':=
 let ⟨_,_,h1,h2,h3⟩:=h.run
 .again sp h1 h2 h3 k
theorem bJ.last {c:Code} {sp:HS} {n0:Nat} {t:List D} {s:List Ob} {ex:Ex} {t':List D} {s':List Ob} (h:aP P c sp n0 t s ex t' s') (hx:ex≠ .norm):bJ P c n0 t s ex t' s':=
 let ⟨_,_,h1,h2,h3⟩:=h.run
 .out sp h1 hx h2 h3
def pb (aD:List Nat):Nat→List Ob→List Ob
  |_,[]=> []
  |i,o::r=>(match iE i aD with|true=>o|false=> .dead)::pb aD (i+1) r
def xm (P:Program) (g:FuncId) (args:List D) (s:List Ob) (aD:List Nat) (o:List (Ev P)):Option ((D×List Ob)×Prop):=
  qP P 20 (.fn g) args s ⟨o,True⟩ fun d s' z=>match z.o with| []=>some ((d,pb aD 0 s'),z.c)|_=>none
theorem oI (aD:List Nat):∀(s:List Ob) (i:Nat),(pb aD i s).length=s.length
 | [],_=>rfl
 |o::r,i=>by simp [pb,oI aD r]
theorem xp (aD:List Nat):∀(s:List Ob) (i k:Nat),(pb aD i s).getD k .dead=s.getD k .dead∨(pb aD i s).getD k .dead= .dead
 | [],_,_=> .inl rfl
 |o::r,i,0=>by
  simp only [pb,List.getD_cons_zero]
  split
  ·exact .inl rfl
  ·exact .inr rfl
 |o::r,i,k+1=>by simp only [pb,List.getD_cons_succ];exact xp aD r (i+1) k
theorem bw.sub {w0:dq} {M:MM} {own:Nat→Option Nat} {σ σ':Nat→Ob} {w:World} (h:bw w0 M own σ w) (hs:∀i,σ' i=σ i∨σ' i= .dead):bw w0 M own σ' w:=by
 have MW:∀ {i:Nat} {o:Ob},σ' i=o→o≠ .dead→σ i=o:=fun {i o} e hn=>by
  rcases hs i with q|q
  ·rw [← q];exact e
  ·exact absurd (e▸q:o= .dead) hn
 exact ⟨h.below,h.cells,h.iJ,h.owned,fun i cs e=>h.box i cs (MW e (by simp)),fun i v sz e=>h.bO i v sz (MW e (by simp)),(fun i F e=>(hs i).elim (fun q=>h.mp i F (by rw [← q];exact e)) (fun q=>by rw [q] at e;cases e)),
  fun i k t ps ag bd e=>h.lp i k t ps ag bd (MW e (by simp)),h.eB⟩
theorem af.ab (hm:P.follows .mixedOrders=true) {g:FuncId} {args:List D} {s:List Ob} {d:D} {s':List Ob} {aD:List Nat} (o:List (Ev P))
  (h:xm P g args s aD o=some ((d,s'),qn o True)):af P g args s d s':=by
 unfold xm at h
 obtain ⟨d1,s1,z',h1,h2⟩:=hZ hm 20 (.fn g) args s _ _ _ h
 split at h1
 ·simp only [SL,TG] at h1
  obtain ⟨⟨rfl,rfl⟩,hz⟩:=h1
  have LV:af P g args s d1 s1:=(h2 (by rw [hz];exact j4 o trivial)).2
  refine ⟨LV.FB,by rw [oI];exact LV.len,fun w0 M own w vs hw hu ha=>Calls.mono (LV.run w0 M own w vs hw hu ha) ?_⟩
  rintro e w' ⟨v,M',LB,rfl,q1,q2,q3,q4⟩
  exact ⟨v,M',LB,rfl,q1.sub (fun i=>xp aD s1 0 i),by rw [oI];exact q2,q3,q4⟩
 ·cases h1
theorem af.cast {g:FuncId} {args:List D} {s:List Ob} {d d':D} {s1 s2:List Ob} (h:af P g args s d s1) (h1:d=d') (h2:s1=s2):af P g args s d' s2:=h1▸h2▸h
end
variable {P:Program}
def JR (s:List Ob) (id sz n:Nat):Option D:=match s.getD id .dead with
  | .box cs=>match Nat.beq cs.length (n*sz)&&cs.all D.clean&&cs.all (fun c=>storable c.aR) with
    |true=>some (.aj .no sz (rows sz n (cs.map D.aR)))
    |false=>none
  |_=>none
def JV (P:Program) (fn:Func) (args:List D) (o:List (Ev P)):Option (D×Prop):=
  tB P (qP P 20) fn args [] ⟨o,True⟩ fun d s z=>match d with
    | .aC (.cS id sz n::r)=>match JR s id sz n with
      |some x=>gJ (r.all D.clean) (match z.o with| []=>some (.aC (x::r.map D.aR),z.c)|_=>none)
      |none=>none
    |_=>none
def JU (P:Program) (fn:Func) (args:List D) (o:List (Ev P)):Option ((D×List Ob)×Prop):=
  tB P (qP P 20) fn args [] ⟨o,True⟩ fun d s z=>match z.o with| []=>some ((d,s),z.c)|_=>none
def Lj (s:List Ob) (d:D):Option D:=match d with
  | .aC (.cS id sz n::r)=>match JR s id sz n with
    |some x=>some (.aC (x::r.map D.aR))
    |none=>none
  |_=>none
end Go.Ev
