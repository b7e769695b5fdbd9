import Derived.LoopN
import Derived.LoopNIn
import Derived.Scope
import Derived.RangeFuncRecord
import Derived.Test.YtbfpahigdpigpaaGreatM02
import Derived.Test.YtbfpahigdpigpaaGreatM03
/- Contracts and plain laws that a statement's proof leans on (texts merged:EvQ,EvP). -/
set_option linter.unusedVariables false
set_option linter.unusedSimpArgs false
namespace Go.Ev
open Go Go.RowKit
theorem mw {i:Nat} :∀ {l:List Nat},iC i l=true↔i∈l
 | []=>by simp [iC]
 |a::r=>by
  unfold iC
  split
  ·rename_i h;rw [Nat.beq_eq] at h;subst h;simp
  ·rename_i h
   rw [mw]
   have:a≠i:=fun e=>by subst e;simp at h
   simp [Ne.symm this]
theorem MM.mH {M M':MM} (h:M.Le M') (n:Nat):(M.cut n).Le (M'.cut n):=by
 refine ⟨h.cell,fun i b k=> ?_,fun i v b k=> ?_,h.eL⟩
 ·simp only [MM.cut] at k ⊢
  split at k
  ·rename_i q;rw [if_pos q];exact h.box _ _ k
  ·cases k
 ·simp only [MM.cut] at k ⊢
  split at k
  ·rename_i q;rw [if_pos q];exact h.bG _ _ _ k
  ·cases k
theorem MM.tq {M:MM} {n:Nat} :((M.cut n).cut n)=M.cut n:=by
 unfold MM.cut
 congr 1
 ·funext i;by_cases h:i<n<;>simp [h]
 ·funext i v;by_cases h:i<n<;>simp [h]
theorem MM.Gh {M:MM} {n:Nat} (h:M.upto n):M.Le (M.cut n):=by
 refine ⟨fun _ _ _ h=>h,fun i b k=> ?_,fun i v b k=> ?_,fun _ h=>h⟩
 ·simp only [MM.cut]
  split
  ·exact k
  ·rw [h.1 i (by omega)] at k;cases k
 ·simp only [MM.cut]
  split
  ·exact k
  ·rw [h.2 i v (by omega)] at k;cases k
theorem iD (n:Nat):∀l:List D,j7 n l=l.all (lU n)
 | []=>by simp [j7]
 |d::r=>by simp [j7,iD n r]
theorem bk.cut {M:MM} {d:D} {v:Value} (h:bk M d v):∀ {n:Nat},lU n d=true→bk (M.cut n) d v:=by
 induction h with
 |undef v=>exact fun _=> .undef v
 |int k n=>exact fun _=> .int k n
 |bool b=>exact fun _=> .bool b
 |str s=>exact fun _=> .str s
 |gD=>exact fun _=> .gD
 |ptr q h=>intro n c;simp only [lU,Nat.blt_eq] at c;exact .ptr q (by simp only [MM.cut,c,if_true];exact h)
 |dN q vs hx hc hr ih=>intro n c;exact .dN q vs hx hc hr
 |dM h=>intro n c;simp only [lU,Nat.blt_eq] at c;exact .dM (by simp only [MM.cut,c,if_true];exact h)
 |iq h=>intro n c;simp only [lU,Nat.blt_eq] at c;exact .iq (by simp only [MM.cut,c,if_true];exact h)
 |dn h hh hc=>intro n c;simp only [lU,Nat.blt_eq] at c;exact .dn (by simp only [MM.cut,c,if_true];exact h) (by simp only [MM.cut,c,if_true];exact hh) hc
 |sub h hc hp ho=>intro n c;simp only [lU,Nat.blt_eq] at c;exact .sub (by simp only [MM.cut,c,if_true];exact h) hc hp ho
 |aj b off vs hl hcap ha hsz hc hr hst ho ih=>
  intro n c
  refine .aj b off vs hl hcap ha hsz hc hr hst ?_
  rename_i M o _ _ _ _ _
  cases o with
  |tok t v=>simp only [lU,Nat.blt_eq] at c;simp only [MM.m5,MM.cut,c,if_true];exact ho
  |no=>trivial
  |fresh k=>trivial
  |tight=>exact ho
 |aq=>exact fun _=> .aq
 |fn h1 h2 r1 r2 i1 i2=>
  intro n c
  rw [lU,iD,iD,Bool.and_eq_true,List.all_eq_true,List.all_eq_true] at c
  exact .fn h1 h2 (fun i d v a b=>i1 i d v a b (c.1 _ (List.mem_of_getElem? a))) (fun i d v a b=>i2 i d v a b (c.2 _ (List.mem_of_getElem? a)))
 |agg h r ih=>
  intro n c
  rw [lU,iD,List.all_eq_true] at c
  exact .agg h (fun i d v a b=>ih i d v a b (c _ (List.mem_of_getElem? a)))
 |aA h r ih=>
  intro n c
  rw [lU,iD,List.all_eq_true] at c
  exact .aA h (fun i d v a b=>ih i d v a b (c _ (List.mem_of_getElem? a)))
theorem nj {s:List Ob} {size id:Nat} {d d':D} {o:Option Nat} {ob:Ob} (h:pM s size id d=some (d',o,ob)):
  (∃fl sz xs,d= .aj fl sz xs∧d'= .aj (.tok id 0) size xs∧ob= .bX 0 size∧(sz=size∨xs= [])∧((fl= .tight∧o=none)∨∃i v,fl= .tok i v∧o=some i∧s.getD i .dead= .bX v size))∨
  (∃i n cs,d= .dn i size n∧d'= .dn id size n∧o=some i∧s.getD i .dead= .box cs∧ob= .box (cs.map D.aX)):=by
 unfold pM at h
 split at h
 ·rename_i sz xs
  split at h
  ·rename_i hk
   simp only [Option.some.injEq,Prod.mk.injEq] at h
   obtain ⟨rfl,rfl,rfl⟩:=h
   simp only [nZ,Bool.or_eq_true,Nat.beq_eq,List.isEmpty_iff] at hk
   exact .inl ⟨_,sz,xs,rfl,rfl,rfl,hk,.inl ⟨rfl,rfl⟩⟩
  ·cases h
 ·rename_i i v sz xs
  split at h
  ·rename_i v' sz2 hs
   split at h
   ·rename_i hk
    simp only [Option.some.injEq,Prod.mk.injEq] at h
    obtain ⟨rfl,rfl,rfl⟩:=h
    simp only [nZ,Bool.or_eq_true,Bool.and_eq_true,Nat.beq_eq,List.isEmpty_iff] at hk
    obtain ⟨rfl,rfl,hk⟩:=hk
    exact .inl ⟨_,sz,xs,rfl,rfl,rfl,hk,.inr ⟨i,v',rfl,rfl,hs⟩⟩
   ·cases h
  ·cases h
 ·rename_i i sz n
  split at h
  ·rename_i cs hs
   split at h
   ·rename_i hk
    rw [Nat.beq_eq] at hk
    subst hk
    simp only [Option.some.injEq,Prod.mk.injEq] at h
    obtain ⟨rfl,rfl,rfl⟩:=h
    exact .inr ⟨i,n,cs,rfl,rfl,rfl,hs,rfl⟩
   ·cases h
  ·cases h
 ·cases h
theorem qW {t:List D} {s:List Ob} :∀ {fs:List (Nat×Nat)} {id:Nat} {used:List (Option Nat)} {new:List Ob},vd t s fs id=some (used,new)→
  (used.length=fs.length∧new.length=fs.length)∧∀(j k size:Nat),fs[j]? =some (k,size)→∃d' o ob,pM s size (id+j) (gG t s k)=some (d',o,ob)∧used[j]? =some o∧new[j]? =some ob
 | [],id,used,new,h=>by
  simp only [vd,Option.some.injEq,Prod.mk.injEq] at h
  obtain ⟨rfl,rfl⟩:=h
  exact ⟨⟨rfl,rfl⟩,fun j k size h=>by simp at h⟩
 |(k,size)::r,id,used,new,h=>by
  simp only [vd] at h
  split at h
  ·rename_i d' o ob l FT h1 h2
   simp only [Option.some.injEq,Prod.mk.injEq] at h
   obtain ⟨rfl,rfl⟩:=h
   obtain ⟨k1,k2⟩:=qW h2
   refine ⟨by simp [k1.1,k1.2],fun j k' size' hj=> ?_⟩
   cases j with
   |zero=>
    simp only [List.getElem?_cons_zero,Option.some.injEq,Prod.mk.injEq] at hj
    obtain ⟨rfl,rfl⟩:=hj
    exact ⟨d',o,ob,h1,rfl,rfl⟩
   |succ j=>
    simp only [List.getElem?_cons_succ] at hj
    obtain ⟨d2,o2,ob2,q1,q2,q3⟩:=k2 j k' size' hj
    exact ⟨d2,o2,ob2,by rw [show id+(j+1)=id+1+j by omega];exact q1,by simpa using q2,by simpa using q3⟩
  ·cases h
theorem ny {i:Nat} :∀ {fs:List (Nat×Nat)} {id id' size:Nat},findF i fs id=some (id',size)→∃j,id'=id+j∧fs[j]? =some (i,size)
 | [],id,id',size,h=>by simp [findF] at h
 |(k,sz)::r,id,id',size,h=>by
  simp only [findF] at h
  split at h
  ·rename_i hk
   rw [Nat.beq_eq] at hk
   simp only [Option.some.injEq,Prod.mk.injEq] at h
   obtain ⟨rfl,rfl⟩:=h
   exact ⟨0,rfl,by simp [hk]⟩
  ·obtain ⟨j,h1,h2⟩:=ny h
   exact ⟨j+1,by omega,by simpa using h2⟩
theorem AW {i:Nat} {fs:List (Nat×Nat)} {n0 id size:Nat} (h:Db i fs n0=some (id,size)):i<dP∧findF i fs n0=some (id,size):=by
 unfold Db at h
 split at h
 ·cases h
 ·rename_i hb
  refine ⟨?_,h⟩
  rcases Nat.lt_or_ge i dP with q|q
  ·exact q
  ·rw [Nat.ble_eq_true_of_le q] at hb;cases hb
theorem AX {i j:Nat} {fs:List (Nat×Nat)} {n0 id size:Nat} (h:yF i j fs n0=some (id,size)):j<1000∧findF (dP+i*1000+j) fs n0=some (id,size):=by
 unfold yF at h
 split at h
 ·rename_i hb
  exact ⟨by rw [Nat.blt_eq] at hb;exact hb,h⟩
 ·cases h
theorem oW {sp:HS} {n0:Nat} {s:List Ob} :∀ {t:List D} {i:Nat} {t':List D},oX sp n0 s i t=some t'→
  t'.length=t.length∧∀k d d',t[k]? =some d→t'[k]? =some d'→BR sp n0 s (i+k) d=some d'
 | [],i,t',h=>by
  simp only [oX,Option.some.injEq] at h
  subst h
  exact ⟨rfl,fun k d d' h=>by simp at h⟩
 |d::r,i,t',h=>by
  simp only [oX] at h
  split at h
  ·rename_i d1 l h1 h2
   obtain rfl:=Option.some.inj h
   obtain ⟨k1,k2⟩:=oW h2
   refine ⟨by simp [k1],fun k d2 d3 a b=> ?_⟩
   cases k with
   |zero=>simp at a b;subst a b;exact h1
   |succ k=>
    simp at a b
    rw [show i+(k+1)=i+1+k by omega]
    exact k2 k d2 d3 a b
  ·cases h
theorem qa {sp:HS} {n0:Nat} {s:List Ob} {i:Nat} :∀ {cs:List D} {j:Nat} {cs':List D},nB sp n0 s i j cs=some cs'→
  cs'.length=cs.length∧∀(k:Nat) (d d':D),cs[k]? =some d→cs'[k]? =some d'→(∃id size o ob,yF i (j+k) sp.lD n0=some (id,size)∧pM s size id d=some (d',o,ob))∨(lU n0 d=true∧d'=d)
 | [],j,cs',h=>by
  simp only [nB,Option.some.injEq] at h
  subst h
  exact ⟨rfl,fun k d d' h=>by simp at h⟩
 |a::r,j,cs',h=>by
  rw [nB] at h
  split at h
  ·rename_i d1 l h1 h2
   obtain rfl:=Option.some.inj h
   obtain ⟨k1,k2⟩:=qa h2
   refine ⟨by simp [k1],fun k d d' p q=> ?_⟩
   cases k with
   |zero=>
    simp at p q
    subst p q
    split at h1
    ·rename_i id size hf
     split at h1
     ·rename_i d2 o hg
      obtain rfl:=Option.some.inj h1
      exact .inl ⟨id,size,o.1,o.2,hf,hg⟩
     ·cases h1
    ·split at h1
     ·rename_i hids
      exact .inr ⟨hids,(Option.some.inj h1).symm⟩
     ·cases h1
   |succ k=>
    simp at p q
    rw [show j+(k+1)=j+1+k by omega]
    exact k2 k d d' p q
  ·cases h
theorem uP {sp:HS} {n0:Nat} {s0:List Ob} {used:List (Option Nat)} {new:List Ob} :∀ {n i:Nat} {s s':List Ob},Ai sp n0 s0 used new n i s=some s'→
  ∃l,s'=l++new∧l.length=n∧∀k o,l[k]? =some o→∃o0,s[k]? =some o0∧Hs sp n0 s0 used (i+k) o0=some o
 |0,i,s,s',h=>by
  simp only [Ai,Option.some.injEq] at h
  exact ⟨[],by simp [h],rfl,fun k o h=>by simp at h⟩
 |n+1,i,[],s',h=>by simp [Ai] at h
 |n+1,i,o::r,s',h=>by
  simp only [Ai] at h
  split at h
  ·rename_i o' l h1 h2
   obtain rfl:=Option.some.inj h
   obtain ⟨l',rfl,k2,k3⟩:=uP h2
   refine ⟨o'::l',rfl,by simp [k2],fun k o2 hk=> ?_⟩
   cases k with
   |zero=>simp at hk;subst hk;exact ⟨o,rfl,h1⟩
   |succ k=>
    simp at hk
    obtain ⟨o0,q1,q2⟩:=k3 k o2 hk
    exact ⟨o0,by simpa using q1,by rw [show i+(k+1)=i+1+k by omega];exact q2⟩
  ·cases h
theorem mA {i:Nat} :∀ {l:List (Option Nat)},qw i l=true↔some i∈l
 | []=>by simp [qw]
 |none::r=>by simp [qw,mA]
 |some a::r=>by
  unfold qw
  split
  ·rename_i h;rw [Nat.beq_eq] at h;subst h;simp
  ·rename_i h
   rw [mA]
   have:a≠i:=fun e=>by subst e;simp at h
   simp [Ne.symm this]
def jI (i:Nat):List (Option Nat)→Nat→Option Nat
  | [],_=>none
  |none::r,id=>jI i r (id+1)
  |some a::r,id=>if a=i then some id else jI i r (id+1)
theorem gd {i:Nat} :∀ {l:List (Option Nat)} {id:Nat},some i∉l→jI i l id=none
 | [],id,_=>rfl
 |none::r,id,h=>by simp only [jI];exact gd (by simpa using h)
 |some a::r,id,h=>by
  simp only [List.mem_cons,Option.some.injEq,not_or] at h
  simp only [jI,if_neg (Ne.symm h.1)]
  exact gd h.2
theorem kS {i:Nat} :∀ {l:List (Option Nat)} {id j:Nat},rA l=true→l[j]? =some (some i)→jI i l id=some (id+j)
 | [],id,j,_,h=>by simp at h
 |none::r,id,j,hd,h=>by
  simp only [rA] at hd
  simp only [jI]
  cases j with
  |zero=>simp at h
  |succ j=>rw [show id+(j+1)=id+1+j by omega];exact kS hd (by simpa using h)
 |some a::r,id,j,hd,h=>by
  simp only [rA,Bool.and_eq_true,Bool.not_eq_true'] at hd
  simp only [jI]
  cases j with
  |zero=>simp at h;simp [h]
  |succ j=>
   have hm:some i∈r:=List.mem_of_getElem? (by simpa using h)
   have:a≠i:=fun e=>by subst e;rw [mA.2 hm] at hd;simp at hd
   rw [if_neg this,show id+(j+1)=id+1+j by omega]
   exact kS hd.2 (by simpa using h)
def pK (sp:HS) (t:List D) (s:List Ob):Prop:= ∀cs∈sX sp t s,∀c∈cs,c.clean=true
theorem lV {s:List Ob} {i:Nat} {cs:List D} (h:s.getD i .dead= .box cs):∀ {l:List Nat},iC (dP+i) l=true→cs∈ni s l
 | [],h1=>by simp [iC] at h1
 |o::r,h1=>by
  rw [mw] at h1
  rcases List.mem_cons.1 h1 with e|e
  ·rw [ni,← e,show Nat.ble dP (dP+i)=true by rw [Nat.ble_eq];omega]
   simp only []
   rw [show dP+i - dP=i by omega,yJ,h]
   simp
  ·rw [ni]
   split
   ·exact List.mem_append_right _ (lV h (mw.2 e))
   ·exact lV h (mw.2 e)
theorem pL {t:List D} {s:List Ob} {k size i sz n:Nat} {cs:List D} (hr:gG t s k= .dn i sz n) (h:s.getD i .dead= .box cs):∀ {l:List (Nat×Nat)} {j:Nat},l[j]? =some (k,size)→cs∈sY t s l
 | [],j,h1=>by simp at h1
 |(k',z)::r,j,h1=>by
  rw [sY]
  cases j with
  |zero=>
   simp only [List.getElem?_cons_zero,Option.some.injEq,Prod.mk.injEq] at h1
   obtain ⟨rfl,rfl⟩:=h1
   rw [hr]
   simp only [yJ,h]
   simp
  |succ j=>exact List.mem_append_right _ (pL hr h (by simpa using h1))
theorem oq {sp:HS} {n0:Nat} {s:List Ob} {used:List (Option Nat)} {i:Nat} {o0 o:Ob} (h:Hs sp n0 s used i o0=some o) (hd:o≠ .dead):some i∉used∧
  ((∃cs,o0= .box cs∧o= .box (cs.map D.aX)∧iC (dP+i) sp.FT=true)∨(∃cs,o0= .box cs∧o= .box cs∧j7 n0 cs=true)∨(∃cs cs',o0= .box cs∧o= .box cs'∧nB sp n0 s i 0 cs=some cs')∨
   (∃k t ps ag bd,o0= .lp k t ps ag bd∧o= .lp k t ps ag bd∧j7 n0 t=true)∨(o=o0∧(∀cs,o≠ .box cs)∧∀k t ps ag bd,o≠ .lp k t ps ag bd)):=by
 have nu:∀ {b:Bool},(b&& !qw i used)=true→some i∉used:=fun {b} hk hm=>by
  simp only [Bool.and_eq_true,Bool.not_eq_true'] at hk
  rw [mA.2 hm] at hk
  simp at hk
 unfold Hs at h
 split at h
 ·rename_i hk
  refine ⟨nu hk,?_⟩
  split at h
  ·rename_i cs
   simp only [Bool.and_eq_true] at hk
   exact .inl ⟨cs,rfl,(Option.some.inj h).symm,hk.1⟩
  ·cases h
 ·split at h
  ·exact absurd (Option.some.inj h).symm hd
  ·rename_i hk
   refine ⟨nu hk,?_⟩
   split at h
   ·rename_i cs
    split at h
    ·rename_i cs' hc
     exact .inr (.inr (.inl ⟨cs,cs',rfl,(Option.some.inj h).symm,hc⟩))
    ·cases h
   ·rename_i k t ps ag bd
    split at h
    ·rename_i hids
     exact .inr (.inr (.inr (.inl ⟨k,t,ps,ag,bd,rfl,(Option.some.inj h).symm,hids⟩)))
    ·cases h
   ·rename_i h1 h2
    obtain rfl:=Option.some.inj h
    exact .inr (.inr (.inr (.inr ⟨rfl,h1,h2⟩)))
theorem nh {sp:HS} {n0:Nat} {t t':List D} {s s':List Ob} (h:mz sp n0 t s=some (t',s')) (hcl:pK sp t s):
  (n0≤s'.length∧s'.length=n0+sp.lD.length)∧∀ {w0:di} {M:MM} {own:Nat→Option Nat} {w:World} {tmps:Array Value},n0≤s.length→bj w0 M own (bm s) w→M.upto s.length→bS M t tmps→
   ∃M' own',bj w0 M' own' (bm s') w∧M'.upto s'.length∧(M.cut n0).Le M'∧bS M' t' tmps:=by
 unfold mz at h
 split at h
 ·rename_i used new hu
  split at h
  ·rename_i hdist
   split at h
   ·rename_i t1 s1 ht hs
    simp only [Option.some.injEq,Prod.mk.injEq] at h
    obtain ⟨rfl,rfl⟩:=h
    obtain ⟨l,rfl,hl,hob⟩:=uP hs
    obtain ⟨ht1,hslot⟩:=oW ht
    obtain ⟨⟨hu1,hu2⟩,hgrow⟩:=qW hu
    have hlen:(l++new).length=n0+sp.lD.length:=by simp [hl,hu2]
    refine ⟨⟨by omega,hlen⟩,?_⟩
    intro w0 M own w tmps hn hw hup hrep
    let rv:Nat→Value:=fun k=>match Nat.ble dP k with
     |false=>tmps.getD k undef
     |true=>match M.box ((k - dP) / 1000) with
      |some b=>(w.cell? ⟨b,(k - dP)%1000,none⟩).getD undef
      |none=>undef
    have hrv:∀k,gG t s k≠ .undef→bk M (gG t s k) (rv k):=by
     intro k hne
     cases hb:Nat.ble dP k with
     |false=>
      simp only [gG,rv,hb]
      exact ir hrep k
     |true=>
      simp only [gG,rv,hb] at hne ⊢
      split at hne
      ·rename_i cs hcs
       obtain ⟨b,vs,ty,kb⟩:=hw.box _ cs hcs
       have hc:∃d,cs[(k - dP)%1000]? =some d:=by
        cases e:cs[(k - dP)%1000]? with
        |none=>rw [List.getD_eq_getElem?_getD,e] at hne;exact absurd rfl hne
        |some d=>exact ⟨d,rfl⟩
       obtain ⟨d,hd⟩:=hc
       obtain ⟨u,h1,h2⟩:=kP kb.len kb.rep hd
       rw [kb.box,List.getD_eq_getElem?_getD,hd]
       simp only [World.cell?,kb.cy,h1]
       exact h2
      ·exact absurd rfl hne
    let bxN:Nat→Option Nat:=fun j=>match sp.lD[j]? with
     |some (k,_)=>(match gG t s k with| .dn i _ _=>M.box i|_=>none)
     |none=>none
    let hdr:Nat→Nat→Option Value:=fun j v=>match sp.lD[j]? with
     |some (k,size)=>(match gG t s k with| .dn _ _ _=>(if v=size then some (rv k) else none)|_=>(if v=0 then some (rv k) else none))
     |none=>none
    let M':MM:=⟨M.cell,fun i=>if i<n0 then M.box i else bxN (i - n0),fun i v=>if i<n0 then M.bG i v else hdr (i - n0) v,M.eL⟩
    let ren:Nat→Option Nat:=fun i=>match jI i used n0 with|some k=>some k|none=>if i<n0 then some i else none
    let own':Nat→Option Nat:=fun b=>(own b).bind ren
    have hle:(M.cut n0).Le M':=by
     refine ⟨fun _ _ _ h=>h,fun i b k=> ?_,fun i v b k=> ?_,fun _ h=>h⟩
     ·simp only [MM.cut] at k
      split at k
      ·rename_i q;simp only [M',if_pos q];exact k
      ·cases k
     ·simp only [MM.cut] at k
      split at k
      ·rename_i q;simp only [M',if_pos q];exact k
      ·cases k
    have root:∀(j k size:Nat),sp.lD[j]? =some (k,size)→
      (∃fl sz xs a len cap o,gG t s k= .aj fl sz xs∧rv k= .slice a len cap∧used[j]? =some o∧new[j]? =some (.bX 0 size)∧(sz=size∨xs= [])∧bk M (.aj fl sz xs) (.slice a len cap)∧((fl= .tight∧o=none)∨∃i v,fl= .tok i v∧o=some i∧s.getD i .dead= .bX v size))∨
      (∃i n cs b cap,gG t s k= .dn i size n∧rv k= .slice (some ⟨b,0,none⟩) n cap∧used[j]? =some (some i)∧new[j]? =some (.box (cs.map D.aX))∧s.getD i .dead= .box cs∧M.box i=some b∧M.bG i size=some (.slice (some ⟨b,0,none⟩) n cap)∧n≤cap∧∀c∈cs,c.clean=true):=by
     intro j k size hj
     obtain ⟨d',o,ob,h1,h2,h3⟩:=hgrow j k size hj
     rcases nj h1 with ⟨fl,sz,xs,q1,q2,rfl,q3,q4⟩|⟨i,n,cs,q1,q2,rfl,q3,rfl⟩
     ·have hr:=hrv k (by rw [q1];simp)
      rw [q1] at hr
      generalize hv:rv k=v at hr
      cases hr with
      |aj b off vs hl hcap ha hsz hc hr hst ho=>
       exact .inl ⟨fl,sz,xs,_,_,_,o,q1,rfl,h2,h3,q3,.aj b off vs hl hcap ha hsz hc hr hst ho,q4⟩
     ·have hr:=hrv k (by rw [q1];simp)
      rw [q1] at hr
      generalize hv:rv k=v at hr
      cases hr with
      |dn hb hh hc=>
       exact .inr ⟨i,n,cs,_,_,q1,rfl,h2,h3,q3,hb,hh,hc,hcl cs (List.mem_append_right _ (pL q1 q3 hj))⟩
    have newAt:∀ {i:Nat} {o:Ob},bm (l++new) i=o→o≠ .dead→(i<n0∧l[i]? =some o)∨(n0≤i∧∃k size,sp.lD[i - n0]? =some (k,size)∧new[i - n0]? =some o):=by
     intro i o hi hne
     unfold bm at hi
     rcases Nat.lt_or_ge i l.length with hlt|hge
     ·rw [List.getD_eq_getElem?_getD,List.getElem?_append_left hlt] at hi
      rw [List.getElem?_eq_getElem hlt] at hi ⊢
      exact .inl ⟨by omega,by simpa using hi⟩
     ·rw [List.getD_eq_getElem?_getD,List.getElem?_append_right hge] at hi
      rw [hl] at hi hge
      cases e:new[i - n0]? with
      |none=>rw [e] at hi;exact absurd hi.symm hne
      |some x=>
       rw [e] at hi
       simp only [Option.getD_some] at hi
       subst hi
       have hlt:i - n0<sp.lD.length:=by
        rw [← hu2]
        rcases Nat.lt_or_ge (i - n0) new.length with q|q
        ·exact q
        ·rw [List.getElem?_eq_none q] at e;cases e
       exact .inr ⟨hge,sp.lD[i - n0].1,sp.lD[i - n0].2,by simp [hlt],rfl⟩
    have iz:∀ {i:Nat} {o0:Ob},s[i]? =some o0→bm s i=o0:=fun {i o0} h1=>by unfold bm;rw [List.getD_eq_getElem?_getD,h1];rfl
    have tokRep:∀ {j k size:Nat} {fl:jW} {sz:Nat} {xs:List D},sp.lD[j]? =some (k,size)→gG t s k= .aj fl sz xs→bk M (.aj fl sz xs) (rv k)→(sz=size∨xs= [])→bk M' (.aj (.tok (n0+j) 0) size xs) (rv k):=by
     intro j k size fl sz xs hj q1 hr q3
     refine bk.resize (sz:=sz) ?_ q3
     generalize hv:rv k=v at hr
     cases hr with
     |aj b off vs hl2 hcap ha hsz hc hr hst ho=>
      refine .aj b off vs hl2 hcap ha hsz hc hr hst ?_
      simp only [MM.m5,M',if_neg (show ¬n0+j<n0 by omega),hdr,show n0+j - n0=j by omega,hj,q1,if_true,hv]
    have slcRep:∀ {j k size i n b cap:Nat},sp.lD[j]? =some (k,size)→gG t s k= .dn i size n→rv k= .slice (some ⟨b,0,none⟩) n cap→M.box i=some b→n≤cap→bk M' (.dn (n0+j) size n) (rv k):=by
     intro j k size i n b cap hj q1 hv hb hc
     rw [hv]
     refine .dn (b:=b) ?_ ?_ hc
     ·simp only [M',if_neg (show ¬n0+j<n0 by omega),bxN,show n0+j - n0=j by omega,hj,q1];exact hb
     ·simp only [M',if_neg (show ¬n0+j<n0 by omega),hdr,show n0+j - n0=j by omega,hj,q1,if_true,hv]
    refine ⟨M',own',⟨hw.below,hw.cells,hw.iz,?_,?_,?_,?_,?_,hw.eL⟩,?_,hle,?_⟩
    ·intro b i k
     simp only [own'] at k
     cases e:own b with
     |none=>rw [e] at k;cases k
     |some i'=>exact hw.owned b i' e
    ·
     intro i cs hi
     rcases newAt hi (by simp) with ⟨hlt,hli⟩|⟨hge,k,size,hj,hnew⟩
     ·obtain ⟨o0,h1,h2⟩:=hob i _ hli
      rw [Nat.zero_add] at h2
      obtain ⟨hnu,hcase⟩:=oq h2 (by simp)
      have kept:∀ {cs0:List D},o0= .box cs0→cs.length=cs0.length→(∀(b:Nat) (vs:Array Value) (ty:TypeId),nV w0 M own i cs0 w b vs ty→∀(j:Nat) (d:D) (v:Value),cs[j]? =some d→vs[j]? =some v→bk M' d v)→∃b vs ty,nV w0 M' own' i cs w b vs ty:=by
       intro cs0 e hle2 hreps
       subst e
       obtain ⟨b,vs,ty,k⟩:=hw.box i cs0 (iz h1)
       refine ⟨b,vs,ty,by simp only [M',if_pos hlt];exact k.box,k.base,?_,k.none,k.cy,by rw [hle2];exact k.len,hreps b vs ty k,fun sz a len cap q=>k.room sz a len cap (by simpa only [M',if_pos hlt] using q)⟩
       simp only [own',k.own,Option.bind_some,ren,gd hnu,if_pos hlt]
      rcases hcase with ⟨cs0,rfl,e,hm⟩|⟨cs0,rfl,e,hids⟩|⟨cs0,cs',rfl,e,hc⟩|⟨_,_,_,_,_,_,e,_⟩|⟨rfl,hnb,_⟩
      ·obtain rfl:=Ob.box.inj e
       have hclean:=hcl cs0 (List.mem_append_left _ (lV (iz h1) hm))
       refine kept rfl (by simp) fun b vs ty k j d v p q=> ?_
       rw [List.getElem?_map,Option.map_eq_some_iff] at p
       obtain ⟨d0,p0,rfl⟩:=p
       exact ((k.rep j d0 v p0 q).oJ (hclean _ (List.mem_of_getElem? p0))).mono (MM.lb M')
      ·obtain rfl:=Ob.box.inj e
       rw [iD,List.all_eq_true] at hids
       exact kept rfl rfl fun b vs ty k j d v p q=>((k.rep j d v p q).cut (hids _ (List.mem_of_getElem? p))).mono hle
      ·obtain rfl:=Ob.box.inj e
       obtain ⟨c1,c2⟩:=qa hc
       refine kept rfl c1 fun b vs ty k j d v p q=> ?_
       have hj0:j<cs0.length:=by
        rw [← c1]
        rcases Nat.lt_or_ge j cs.length with h|h
        ·exact h
        ·rw [List.getElem?_eq_none h] at p;cases p
       have hd0:cs0[j]? =some cs0[j]:=by simp [hj0]
       rcases c2 j _ d hd0 p with ⟨id,size,o,ob,hf,hg⟩|⟨hids,rfl⟩
       ·rw [Nat.zero_add] at hf
        obtain ⟨hj1,hf⟩:=AX hf
        obtain ⟨jj,rfl,hjj⟩:=ny hf
        obtain ⟨d2,o2,ob2,hg2,hu3,hn3⟩:=hgrow jj _ size hjj
        have e1:(dP+i*1000+j - dP) / 1000=i:=by omega
        have e2:(dP+i*1000+j - dP)%1000=j:=by omega
        have hbl:Nat.ble dP (dP+i*1000+j)=true:=by rw [Nat.ble_eq];omega
        have hroot:gG t s (dP+i*1000+j)=cs0[j]:=by
         simp only [gG,hbl,e1,e2]
         rw [show s.getD i .dead= .box cs0 from iz h1]
         simp only []
         rw [List.getD_eq_getElem?_getD,hd0]
         rfl
        have hval:rv (dP+i*1000+j)=v:=by
         simp only [rv,hbl,e1,e2]
         rw [k.box]
         simp only [World.cell?,k.cy,q]
         rfl
        rcases nj hg with ⟨fl,sz,xs,q1,rfl,_,q3,_⟩|⟨i',n,cs',q1,rfl,_,q3,_⟩
        ·have hr:=tokRep hjj (hroot.trans q1) (by rw [hval,← q1];exact k.rep j _ v hd0 q) q3
         rw [hval] at hr
         exact hr
        ·rcases root jj _ size hjj with ⟨_,_,_,_,_,_,_,r1,_⟩|⟨i2,n2,cs2,b2,cap2,r1,r2,_,_,_,r3,_,r4,_⟩
         ·rw [hroot,q1] at r1;cases r1
         ·rw [hroot,q1] at r1
          cases r1
          have hr:=slcRep hjj (hroot.trans q1) r2 r3 r4
          rw [hval] at hr
          exact hr
       ·exact ((k.rep j _ v hd0 q).cut hids).mono hle
      ·cases e
      ·exact absurd rfl (hnb cs)
     ·rcases root _ k size hj with ⟨_,_,_,_,_,_,_,_,_,_,r,_⟩|⟨i',n,cs0,b,cap,q1,q2,q3,q4,q5,q6,q7,q8,q9⟩
      ·rw [hnew] at r;cases r
      ·rw [hnew] at q4
       obtain rfl:=Ob.box.inj (Option.some.inj q4)
       obtain ⟨b2,vs,ty,kb⟩:=hw.box i' cs0 q5
       obtain rfl:b2=b:=by have:=kb.box;rw [q6] at this;exact (Option.some.inj this).symm
       have hi0:¬i<n0:=by omega
       refine ⟨b2,vs,ty,?_,kb.base,?_,kb.none,kb.cy,by simpa using kb.len,fun j d v p q=> ?_,fun sz a len cap' q=> ?_⟩
       ·simp only [M',if_neg hi0,bxN,hj,q1];exact q6
       ·simp only [own',kb.own,Option.bind_some,ren,kS hdist q3]
        congr 1
        omega
       ·rw [List.getElem?_map,Option.map_eq_some_iff] at p
        obtain ⟨d0,p0,rfl⟩:=p
        exact ((kb.rep j d0 v p0 q).oJ (q9 _ (List.mem_of_getElem? p0))).mono (MM.lb M')
       ·simp only [M',if_neg hi0,hdr,hj,q1] at q
        split at q
        ·rename_i e
         subst e
         rw [q2] at q
         obtain ⟨rfl,rfl,rfl⟩:=Value.slice.inj (Option.some.inj q)
         exact kb.room _ _ _ _ q7
        ·cases q
    ·
     intro i ver sz hi
     rcases newAt hi (by simp) with ⟨hlt,hli⟩|⟨hge,k,size,hj,hnew⟩
     ·obtain ⟨o0,h1,h2⟩:=hob i _ hli
      rw [Nat.zero_add] at h2
      obtain ⟨hnu,hcase⟩:=oq h2 (by simp)
      have ho:o0= .bX ver sz:=by
       rcases hcase with ⟨_,_,e,_⟩|⟨_,_,e,_⟩|⟨_,_,_,e,_⟩|⟨_,_,_,_,_,_,e,_⟩|⟨rfl,_⟩
       ·cases e
       ·cases e
       ·cases e
       ·cases e
       ·rfl
      subst ho
      obtain ⟨a,len,cap,k⟩:=hw.bX i ver sz (iz h1)
      refine ⟨a,len,cap,by simp only [M',if_pos hlt];exact k.bG,fun v hv=>by simp only [M',if_pos hlt];exact k.last v hv,?_⟩
      rcases k.room with q|⟨b,vs,ty,fz,ha,r⟩
      ·exact .inl q
      ·refine .inr ⟨b,vs,ty,fz,ha,r.base,?_,r.cy,r.fz,r.cap,r.none⟩
       simp only [own',r.own,Option.bind_some,ren,gd hnu,if_pos hlt]
     ·have hnlt:¬i<n0:=by omega
      rcases root _ k size hj with ⟨fl,sz0,xs,a,len,cap,o,q1,q2,q3,q4,q5,q6,q7⟩|⟨_,_,_,_,_,_,_,_,r,_⟩
      ·rw [hnew] at q4
       obtain ⟨rfl,rfl⟩:=Ob.bX.inj (Option.some.inj q4)
       refine ⟨a,len,cap,?_,fun v hv=> ?_,?_⟩
       ·simp only [M',if_neg hnlt,hdr,hj,q1,if_true,q2]
       ·simp only [M',if_neg hnlt,hdr,hj,q1,if_neg (show ¬v=0 by omega)]
       ·cases q6 with
        |aj b off vs hl2 hcap ha hsz hc hr hst ho=>
         rcases q7 with ⟨rfl,rfl⟩|⟨i',v,rfl,rfl,hs'⟩
         ·exact .inl ho
         ·obtain ⟨a',len',cap',k2⟩:=hw.bX i' v _ hs'
          have:M.bG i' v=some _:=ho
          rw [k2.bG] at this
          obtain ⟨rfl,rfl,rfl⟩:=Value.slice.inj (Option.some.inj this)
          rcases k2.room with q|⟨b,vs,ty,fz,ha,r⟩
          ·exact .inl q
          ·refine .inr ⟨b,vs,ty,fz,ha,r.base,?_,r.cy,r.fz,r.cap,r.none⟩
           simp only [own',r.own,Option.bind_some,ren,kS hdist q3]
           congr 1
           omega
      ·rw [hnew] at r;cases r
    ·
     intro i F hi
     obtain ⟨o,hoo⟩:∃o,bm (l++new) i=o:=⟨_,rfl⟩
     rw [hoo] at hi
     have nb:∀cs,o≠ .box cs:=fun cs e=>by rw [e] at hi;cases hi
     have nd:o≠ .dead:=fun e=>by rw [e] at hi;cases hi
     have nf:∀v sz,o≠ .bX v sz:=fun v sz e=>by rw [e] at hi;cases hi
     have nl:∀k t ps ag bd,o≠ .lp k t ps ag bd:=fun k t ps ag bd e=>by rw [e] at hi;cases hi
     rcases newAt hoo nd with ⟨hlt,hli⟩|⟨hge,k,size,hj,hnew⟩
     ·obtain ⟨o0,h1,h2⟩:=hob i _ hli
      rw [Nat.zero_add] at h2
      obtain ⟨hnu,hcase⟩:=oq h2 nd
      have ho:o0=o:=by
       rcases hcase with ⟨_,_,e,_⟩|⟨_,_,e,_⟩|⟨_,_,_,e,_⟩|⟨_,_,_,_,_,_,e,_⟩|⟨rfl,_⟩
       ·exact absurd e (nb _)
       ·exact absurd e (nb _)
       ·exact absurd e (nb _)
       ·exact absurd e (nl _ _ _ _ _)
       ·rfl
      subst ho
      obtain ⟨b,ents,clock,k⟩:=hw.mp i F (by rw [iz h1];exact hi)
      refine ⟨b,ents,clock,by simp only [M',if_pos hlt];exact k.box,k.base,?_,k.none,k.cy,k.fits⟩
      simp only [own',k.own,Option.bind_some,ren,gd hnu,if_pos hlt]
     ·rcases root _ k size hj with ⟨_,_,_,_,_,_,_,_,_,_,r,_⟩|⟨_,_,_,_,_,_,_,_,r,_⟩<;>rw [hnew] at r<;>obtain rfl:=Option.some.inj r
      ·exact absurd rfl (nf _ _)
      ·exact absurd rfl (nb _)
    ·
     intro i kk tt ps ag bd hi
     rcases newAt hi (by simp) with ⟨hlt,hli⟩|⟨hge,k,size,hj,hnew⟩
     ·obtain ⟨o0,h1,h2⟩:=hob i _ hli
      rw [Nat.zero_add] at h2
      obtain ⟨hnu,hcase⟩:=oq h2 (by simp)
      have ho:o0= .lp kk tt ps ag bd∧j7 n0 tt=true:=by
       rcases hcase with ⟨_,_,e,_⟩|⟨_,_,e,_⟩|⟨_,_,_,e,_⟩|⟨_,_,_,_,_,rfl,e,hids⟩|⟨_,_,hnl⟩
       ·cases e
       ·cases e
       ·cases e
       ·cases e;exact ⟨rfl,hids⟩
       ·exact absurd rfl (hnl _ _ _ _ _)
      obtain ⟨rfl,hids⟩:=ho
      rw [iD,List.all_eq_true] at hids
      obtain ⟨b,r,k⟩:=hw.lp i kk tt ps ag bd (iz h1)
      refine ⟨b,r,by simp only [M',if_pos hlt];exact k.box,k.base,?_,k.cy,k.st,k.pd,⟨k.tm.1,fun j d v p q=>((k.tm.2 j d v p q).cut (hids _ (List.mem_of_getElem? p))).mono hle⟩,k.ps,k.ag,k.bd⟩
      simp only [own',k.own,Option.bind_some,ren,gd hnu,if_pos hlt]
     ·rcases root _ k size hj with ⟨_,_,_,_,_,_,_,_,_,_,r,_⟩|⟨_,_,_,_,_,_,_,_,r,_⟩<;>rw [hnew] at r<;>cases r
    ·
     refine ⟨fun id hid=> ?_,fun id v hid=> ?_⟩
     ·simp only [M',if_neg (show ¬id<n0 by omega),bxN]
      rw [List.getElem?_eq_none (by omega)]
     ·simp only [M',if_neg (show ¬id<n0 by omega),hdr]
      rw [List.getElem?_eq_none (by omega)]
    ·
     refine ⟨by rw [ht1];exact hrep.1,fun i d' v p q=> ?_⟩
     have hit:i<t.length:=by
      rcases Nat.lt_or_ge i t.length with h|h
      ·exact h
      ·rw [List.getElem?_eq_none (by omega)] at p;cases p
     have hd:t[i]? =some t[i]:=by simp [hit]
     have hsl:=hslot i _ d' hd p
     rw [Nat.zero_add] at hsl
     unfold BR at hsl
     split at hsl
     ·rename_i id size hf
      split at hsl
      ·rename_i d2 o hg
       obtain rfl:=Option.some.inj hsl
       obtain ⟨hbi,hf⟩:=AW hf
       obtain ⟨j,rfl,hj⟩:=ny hf
       ·have hbf:Nat.ble dP i=false:=by
         cases e:Nat.ble dP i with
         |false=>rfl
         |true=>rw [Nat.ble_eq] at e;omega
        have hroot:gG t s i=t[i]:=by
         simp only [gG,hbf]
         rw [List.getD_eq_getElem?_getD,hd]
         rfl
        have hval:rv i=v:=by
         simp only [rv,hbf]
         rw [Array.getD_eq_getD_getElem?,q]
         rfl
        rcases nj hg with ⟨fl,sz,xs,q1,rfl,_,q3,_⟩|⟨i',n,cs',q1,rfl,_,q3,_⟩
        ·have hr:=tokRep hj (hroot.trans q1) (by rw [hval,← q1];exact hrep.2 i _ v hd q) q3
         rw [hval] at hr
         exact hr
        ·rcases root j _ size hj with ⟨_,_,_,_,_,_,_,r1,_⟩|⟨i2,n2,cs2,b2,cap2,r1,r2,_,_,_,r3,_,r4,_⟩
         ·rw [hroot,q1] at r1;cases r1
         ·rw [hroot,q1] at r1
          cases r1
          have hr:=slcRep hj (hroot.trans q1) r2 r3 r4
          rw [hval] at hr
          exact hr
      ·cases hsl
     ·split at hsl
      ·split at hsl
       ·rename_i hids
        obtain rfl:=Option.some.inj hsl
        exact ((hrep.2 i _ v hd q).cut hids).mono hle
       ·cases hsl
      ·obtain rfl:=Option.some.inj hsl
       exact .undef v
   ·cases h
  ·cases h
 ·cases h
section
variable {P:Program}
inductive cK (P:Program) (c:Code) (n0:Nat):List D→List Ob→Ex→List D→List Ob→Prop
  |out {t:List D} {s:List Ob} {ex:Ex} {t1 t':List D} {s1 s':List Ob} (sp:HS) (h:jZ P c t s ex t1 s1) (hx:ex≠ .norm) (hh:mz sp n0 t1 s1=some (t',s')) (hcl:pK sp t1 s1):cK P c n0 t s ex t' s'
  |again {t:List D} {s:List Ob} {t1 t2:List D} {s1 s2:List Ob} {ex:Ex} {t':List D} {s':List Ob} (sp:HS) (h:jZ P c t s .norm t1 s1) (hh:mz sp n0 t1 s1=some (t2,s2)) (hcl:pK sp t1 s1) (k:cK P c n0 t2 s2 ex t' s'):cK P c n0 t s ex t' s'
theorem cK.depth {c:Code} {n0:Nat} {t:List D} {s:List Ob} {ex:Ex} {t':List D} {s':List Ob} (h:cK P c n0 t s ex t' s'):n0≤s.length→n0≤s'.length∧
  ∃n,∀(rr:Option Nat) (K:Nat→Prop) (w0:di) (M:MM) (own:Nat→Option Nat) (w:World) (a:Act) (L:MM),L.Le (M.cut n0)→bj w0 M own (bm s) w→M.upto s.length→bS M t a.tmps→fL K M a.defers→
   Code.roundsIn (FW rr) 0 P c (fun e a' w'=>ex.is e∧∃M' own',bj w0 M' own' (bm s') w'∧M'.upto s'.length∧L.Le M'∧bS M' t' a'.tmps∧fL K M' a'.defers) n a w:=by
 induction h with
 |out sp h hx hh hcl=>
  intro hn
  obtain ⟨hl,hhead⟩:=nh hh hcl
  refine ⟨hl.1,1,fun rr K w0 M own w a L le hw hu ht hd=> ?_⟩
  rw [roundsIn_succ]
  refine wpIn_mono (h.run rr (fun e=>by cases e) K w0 M own w a hw hu ht hd) ?_
  rintro e a' w' ⟨h0,M1,own1,q1,q2,q3,q4,q5⟩
  obtain ⟨M2,own2,r1,r2,r3,r4⟩:=hhead (Nat.le_trans hn h.len) q1 q2 q4
  have fin:∃M' own',bj w0 M' own' (bm _) w'∧M'.upto _∧L.Le M'∧bS M' _ a'.tmps∧fL K M' a'.defers:=⟨M2,own2,r1,r2,(le.trans (MM.mH q3 n0)).trans r3,r4,q5.mono r3.eL⟩
  rename_i ex _ _ _ _
  cases ex with
  |norm=>exact absurd rfl hx
  |exit i=>cases e<;>simp only [Ex.is] at h0;exact ⟨h0,fin⟩
  |ret=>cases e<;>simp only [Ex.is] at h0;exact ⟨h0,fin⟩
 |again sp h hh hcl k ih=>
  intro hn
  obtain ⟨hl,hhead⟩:=nh hh hcl
  obtain ⟨i1,n,i2⟩:=ih hl.1
  refine ⟨i1,n+1,fun rr K w0 M own w a L le hw hu ht hd=> ?_⟩
  rw [roundsIn_succ]
  refine wpIn_mono (h.run rr (fun e=>by cases e) K w0 M own w a hw hu ht hd) ?_
  rintro e a' w' ⟨h0,M1,own1,q1,q2,q3,q4,q5⟩
  obtain ⟨M2,own2,r1,r2,r3,r4⟩:=hhead (Nat.le_trans hn h.len) q1 q2 q4
  cases e<;>simp only [Ex.is] at h0
  refine i2 rr K w0 M2 own2 w' a' L ?_ r1 r2 r4 (q5.mono r3.eL)
  have:=MM.mH r3 n0
  rw [MM.tq] at this
  exact (le.trans (MM.mH q3 n0)).trans this
theorem ea.gM {c:Code} {n0:Nat} {t:List D} {s:List Ob} {ex:Ex} {t':List D} {s':List Ob} (hn:n0≤s.length) (h:cK P c n0 t s ex t' s'):ea P n0 (.loop c) t s ex t' s':=by
 obtain ⟨h1,n,h2⟩:=h.depth hn
 exact ⟨fun rr K w0 M own w a hw hu ht hd=>wpIn_loop_rounds n (h2 rr K w0 M own w a (M.cut n0) (.refl _) hw hu ht hd),h1⟩
theorem mI {ρ':Type} {r:ρ'} :∀ {l:List (List D)} {z:Z P} {k:Z P→Option ρ'},Bi l z k=some r→∃z',k z'=some r∧(z'.c→z.c∧∀cs∈l,∀c∈cs,c.clean=true)
 | [],z,k,h=>⟨z,h,fun q=>⟨q,fun _ h=>by simp at h⟩⟩
 |cs::l,z,k,h=>by
  rw [Bi] at h
  split at h
  ·rename_i cs' hc o _
   obtain ⟨z',h1,h2⟩:=mI h
   refine ⟨z',h1,fun q=>⟨(h2 q).1.2,fun x hx=> ?_⟩⟩
   rcases List.mem_cons.1 hx with rfl|hx
   ·exact (h2 q).1.1▸hc
   ·exact (h2 q).2 x hx
  ·cases h
theorem aV.yk {rd:Bool} {c:Code} {sp:HS} {t t1:List D} {s s1:List Ob} {ex:Ex} {t2:List D} {s2:List Ob} (h:ea P s.length c t1 s1 ex t2 s2) (hh:mz sp s.length t s=some (t1,s1)) (hcl:pK sp t s):aV P rd c t s ex t2 s2:=by
 obtain ⟨hl,hhead⟩:=nh hh hcl
 refine ⟨fun rr _ K w0 M own w a hw hu ht hd=> ?_,h.len⟩
 obtain ⟨M2,own2,r1,r2,r3,r4⟩:=hhead (Nat.le_refl _) hw hu ht
 refine wpIn_mono (h.run rr K w0 M2 own2 w a r1 r2 r4 (hd.mono r3.eL)) ?_
 rintro e a' w' ⟨h0,M',own',q1,q2,q3,q4,q5⟩
 have:=MM.mH r3 s.length
 rw [MM.tq] at this
 exact ⟨h0,M',own',q1,q2,((MM.Gh hu).trans this).trans q3,q4,q5⟩
inductive jV (P:Program) (rd:Bool) (c:Code):List D→List Ob→Ex→List D→List Ob→Prop
  |out {t:List D} {s:List Ob} {ex:Ex} {t1:List D} {s1:List Ob} (h:aV P rd c t s ex t1 s1) (hx:ex≠ .norm):jV P rd c t s ex t1 s1
  |again {t:List D} {s:List Ob} {t1:List D} {s1:List Ob} {ex:Ex} {t':List D} {s':List Ob} (h:aV P rd c t s .norm t1 s1) (k:jV P rd c t1 s1 ex t' s'):jV P rd c t s ex t' s'
theorem jV.depth {rd:Bool} {c:Code} {t:List D} {s:List Ob} {ex:Ex} {t':List D} {s':List Ob} (h:jV P rd c t s ex t' s'):s.length≤s'.length∧
  ∃n,∀(rr:Option Nat) (_:rd=false→rr=none) (K:Nat→Prop) (w0:di) (M:MM) (own:Nat→Option Nat) (w:World) (a:Act) (L:MM),L.Le M→bj w0 M own (bm s) w→M.upto s.length→bS M t a.tmps→fL K M a.defers→
   Code.roundsIn (FW rr) 0 P c (fun e a' w'=>ex.is e∧∃M' own',bj w0 M' own' (bm s') w'∧M'.upto s'.length∧L.Le M'∧bS M' t' a'.tmps∧fL K M' a'.defers) n a w:=by
 induction h with
 |out h hx=>
  refine ⟨h.len,1,fun rr hrd K w0 M own w a L le hw hu ht hd=> ?_⟩
  rw [roundsIn_succ]
  refine wpIn_mono (h.run rr hrd K w0 M own w a hw hu ht hd) ?_
  rintro e a' w' ⟨h0,M1,own1,q1,q2,q3,q4,q5⟩
  have fin:∃M' own',bj w0 M' own' (bm _) w'∧M'.upto _∧L.Le M'∧bS M' _ a'.tmps∧fL K M' a'.defers:=⟨M1,own1,q1,q2,le.trans q3,q4,q5⟩
  rename_i ex _ _
  cases ex with
  |norm=>exact absurd rfl hx
  |exit i=>cases e<;>simp only [Ex.is] at h0;exact ⟨h0,fin⟩
  |ret=>cases e<;>simp only [Ex.is] at h0;exact ⟨h0,fin⟩
 |again h k ih=>
  obtain ⟨i1,n,i2⟩:=ih
  refine ⟨Nat.le_trans h.len i1,n+1,fun rr hrd K w0 M own w a L le hw hu ht hd=> ?_⟩
  rw [roundsIn_succ]
  refine wpIn_mono (h.run rr hrd K w0 M own w a hw hu ht hd) ?_
  rintro e a' w' ⟨h0,M1,own1,q1,q2,q3,q4,q5⟩
  cases e<;>simp only [Ex.is] at h0
  exact i2 rr hrd K w0 M1 own1 w' a' L (le.trans q3) q1 q2 q4 q5
theorem aV.gM {rd:Bool} {c:Code} {t:List D} {s:List Ob} {ex:Ex} {t':List D} {s':List Ob} (h:jV P rd c t s ex t' s'):aV P rd (.loop c) t s ex t' s':=by
 obtain ⟨h1,n,h2⟩:=h.depth
 exact ⟨fun rr hrd K w0 M own w a hw hu ht hd=>wpIn_loop_rounds n (h2 rr hrd K w0 M own w a M (.refl _) hw hu ht hd),h1⟩
theorem uZ {rd:Bool} {ρ':Type} {r:ρ'} {c:Code} {body:List D→List Ob→Z P→(Ex→List D→List Ob→Z P→Option ρ')→Option ρ'}
  (hb:∀ {t:List D} {s:List Ob} {z:Z P} {K:Ex→List D→List Ob→Z P→Option ρ'},body t s z K=some r→∃ex t' s' z',K ex t' s' z'=some r∧(z'.c→z.c∧aV P rd c t s ex t' s')):
  ∀ {n:Nat} {t:List D} {s:List Ob} {z:Z P} {K:Ex→List D→List Ob→Z P→Option ρ'},iter body n t s z K=some r→∃ex t' s' z',K ex t' s' z'=some r∧(z'.c→z.c∧jV P rd c t s ex t' s')
 |0,t,s,z,K,h=>by simp [iter] at h
 |n+1,t,s,z,K,h=>by
  rw [iter] at h
  obtain ⟨ex,t1,s1,z1,h1,h2⟩:=hb h
  split at h1
  ·obtain ⟨ex',t2,s2,z2,h3,h4⟩:=uZ hb h1
   exact ⟨ex',t2,s2,z2,h3,fun q=>⟨(h2 (h4 q).1).1,.again (h2 (h4 q).1).2 (h4 q).2⟩⟩
  ·rename_i hne
   exact ⟨_,t1,s1,z1,h1,fun q=>⟨(h2 q).1,.out (h2 q).2 hne⟩⟩
end
def yL (K:Nat→Prop) (w0:di) (M:MM) (ex:Ex) (t':List D) (s':List Ob):Exit→Act→World→Prop:=
  fun e a' w'=>ex.is e∧∃M' own',bj w0 M' own' (bm s') w'∧M'.upto s'.length∧M.Le M'∧bS M' t' a'.tmps∧fL K M' a'.defers
theorem v7 {K:Nat→Prop} {w0:di} {M M1:MM} (le:M.Le M1) {ex:Ex} {t':List D} {s':List Ob} {e:Exit} {a:Act} {w:World} (h:yL K w0 M1 ex t' s' e a w):yL K w0 M ex t' s' e a w:=by
 obtain ⟨h0,M',own',h1,h2,h3,h4,h5⟩:=h
 exact ⟨h0,M',own',h1,h2,le.trans h3,h4,h5⟩
theorem gb {P:Program} {b:Frame} {a:Act} {k:List Item} {cs:List Frame} {w:World} {c:Code} :step P (lone (b.atR a (.code (.scope c)::k)) cs w)= .next (lone (b.atR a (.code c:: .inScope c::k)) cs w):=
 step_lone_go (by simp [stepG,stepG.exec,Frame.atR])
theorem qm {P:Program} {b:Frame} {a:Act} {k:List Item} {cs:List Frame} {w:World} {c:Code} :step P (lone (b.atR a (.inScope c::k)) cs w)= .next (lone (b.atR a k) cs w):=
 step_lone_go (by simp [stepG,stepG.exec,Frame.atR])
theorem lz {P:Program} {F:Fence} {n:Nat} {Q:Exit→Act→World→Prop} {a:Act} {w:World} {c:Code} (h:c.wpIn F n P (Exit.noGoto Q) a w):(Code.scope c).wpIn F n P Q a w:=by
 intro b k cs hro hb hr
 have h0:(lone (b.atR a (.code (.scope c)::k)) cs w).fenced P F:=fenced_calm hb hr rfl
 obtain ⟨e,a₁,w₁,hq,harr⟩:=h b (.inScope c::k) cs hro hb hr
 cases e with
 |normal=>exact ⟨.normal,a₁,w₁,hq,.head h0 gb (StepsIn.trans harr (.one (fenced_calm hb hr rfl) qm))⟩
 |exit id=>
  have hx:exitTo id (.inScope c::k)=exitTo id k:=by simp [exitTo]
  exact ⟨.exit id,a₁,w₁,hq,fun k' hk=> .head h0 gb (harr.1 k' (by rw [hx];exact hk)),
   fun hr' hk=>let ⟨k₁,h1,h2⟩:=harr.2 hr' (by rw [hx];exact hk);⟨k₁,h1,.head h0 gb h2⟩⟩
 |goto l=>exact hq.elim
 |ret=>exact ⟨_,a₁,w₁,hq,.of_steps (.one h0 gb) harr⟩
 |panic ch=>exact ⟨_,a₁,w₁,hq,.of_steps (.one h0 gb) harr⟩
 |outgrown=>exact ⟨_,a₁,w₁,hq,.of_steps (.one h0 gb) harr⟩
section
variable {P:Program} {rd:Bool}
theorem aV.skip (t:List D) (s:List Ob):aV P rd .skip t s .norm t s:=
 ⟨fun _ _ _ _ M own _ _ hw hu ht hd=>wpIn_skip ⟨trivial,M,own,hw,hu,.refl M,ht,hd⟩,Nat.le_refl _⟩
theorem aV.label (l:Nat) (t:List D) (s:List Ob):aV P rd (.label l) t s .norm t s:=
 ⟨fun _ _ _ _ M own _ _ hw hu ht hd=>wpIn_label ⟨trivial,M,own,hw,hu,.refl M,ht,hd⟩,Nat.le_refl _⟩
theorem aV.exit (i:Nat) (t:List D) (s:List Ob):aV P rd (.exit i) t s (.exit i) t s:=
 ⟨fun _ _ _ _ M own _ _ hw hu ht hd=>wpIn_exit ⟨rfl,M,own,hw,hu,.refl M,ht,hd⟩,Nat.le_refl _⟩
theorem aV.HF (t:List D) (s:List Ob):aV P rd .ret t s .ret t s:=
 ⟨fun _ _ _ _ M own _ _ hw hu ht hd=>wpIn_ret ⟨trivial,M,own,hw,hu,.refl M,ht,hd⟩,Nat.le_refl _⟩
theorem aV.HD {x y:Code} {t t1 t2:List D} {s s1 s2:List Ob} {ex:Ex} (h:aV P rd x t s .norm t1 s1) (k:aV P rd y t1 s1 ex t2 s2):aV P rd (.seq x y) t s ex t2 s2:=by
 refine ⟨fun rr hrd K w0 M own w a hw hu ht hd=>wpIn_seq (wpIn_mono (h.run rr hrd K w0 M own w a hw hu ht hd) ?_),Nat.le_trans h.len k.len⟩
 rintro e a' w' ⟨h0,M',own',h1,h2,h3,h4,h5⟩
 cases e<;>simp only [Ex.is] at h0
 exact wpIn_mono (k.run rr hrd K w0 M' own' w' a' h1 h2 h4 h5) fun e a w hh=>v7 h3 hh
theorem aV.HC {x y:Code} {t t1:List D} {s s1:List Ob} {ex:Ex} (h:aV P rd x t s ex t1 s1) (hx:ex≠ .norm):aV P rd (.seq x y) t s ex t1 s1:=by
 refine ⟨fun rr hrd K w0 M own w a hw hu ht hd=>wpIn_seq (wpIn_mono (h.run rr hrd K w0 M own w a hw hu ht hd) ?_),h.len⟩
 rintro e a' w' ⟨h0,h1⟩
 cases ex with
 |norm=>exact absurd rfl hx
 |exit i=>cases e<;>simp only [Ex.is] at h0;exact ⟨h0,h1⟩
 |ret=>cases e<;>simp only [Ex.is] at h0;exact ⟨h0,h1⟩
theorem aV.cond {c:Operand} {x y:Code} {t t1:List D} {s s1:List Ob} {ex:Ex} {b:Bool} (hb:bI t c= .bool b) (h:aV P rd (if b then x else y) t s ex t1 s1):aV P rd (.cond c x y) t s ex t1 s1:=by
 refine ⟨fun rr hrd K w0 M own w a hw hu ht hd=>wpIn_cond (t:=b) ?_ (h.run rr hrd K w0 M own w a hw hu ht hd),h.len⟩
 have hr:=mi ht c
 rw [hb] at hr
 generalize hv:a.eval c=v at hr
 cases hr
 rfl
theorem aV.Gq {id:Nat} {x:Code} {t t1:List D} {s s1:List Ob} (h:aV P rd x t s (.exit id) t1 s1):aV P rd (.block id x) t s .norm t1 s1:=by
 refine ⟨fun rr hrd K w0 M own w a hw hu ht hd=>wpIn_block (wpIn_mono (h.run rr hrd K w0 M own w a hw hu ht hd) ?_),h.len⟩
 rintro e a' w' ⟨h0,h1⟩
 cases e<;>simp only [Ex.is] at h0
 subst h0
 simp only [Exit.inBlock,if_true]
 exact ⟨trivial,h1⟩
theorem aV.Dp {id:Nat} {x:Code} {t t1:List D} {s s1:List Ob} {ex:Ex} (h:aV P rd x t s ex t1 s1) (hx:∀i,ex= .exit i→i≠id):aV P rd (.block id x) t s ex t1 s1:=by
 refine ⟨fun rr hrd K w0 M own w a hw hu ht hd=>wpIn_block (wpIn_mono (h.run rr hrd K w0 M own w a hw hu ht hd) ?_),h.len⟩
 rintro e a' w' ⟨h0,h1⟩
 cases ex with
 |norm=>cases e<;>simp only [Ex.is] at h0;exact ⟨h0,h1⟩
 |exit i=>
  cases e<;>simp only [Ex.is] at h0
  subst h0
  simp only [Exit.inBlock,if_neg (hx _ rfl)]
  exact ⟨rfl,h1⟩
 |ret=>cases e<;>simp only [Ex.is] at h0;exact ⟨h0,h1⟩
theorem aV.scope {x:Code} {t t1:List D} {s s1:List Ob} {ex:Ex} (h:aV P rd x t s ex t1 s1):aV P rd (.scope x) t s ex t1 s1:=by
 refine ⟨fun rr hrd K w0 M own w a hw hu ht hd=>lz (wpIn_mono (h.run rr hrd K w0 M own w a hw hu ht hd) ?_),h.len⟩
 rintro e a' w' ⟨h0,h1⟩
 cases ex<;>cases e<;>simp only [Ex.is] at h0<;>exact ⟨h0,h1⟩
theorem aV.text {id:Nat} {ops:Array Oper} {t t1:List D} {s s1:List Ob} {tr:List Tr} (h:Trace P ops ops.toList t s tr t1 s1):aV P rd (.region id ops false) t s .norm t1 s1:=by
 refine ⟨fun rr hrd K w0 M own w a hw hu ht hd=>wpIn_region ?_,iv h⟩
 rw [List.range_eq_range',show ops.size=ops.toList.length by simp]
 exact nF rr h 0 rfl hw hu ht rfl fun M' own' w' a' le up hw' ht' hd'=>⟨trivial,M',own',hw',up,le,ht',hd'▸hd.mono le.eL⟩
theorem aV.draw {id:Nat} {ops:Array Oper} {t t1:List D} {s s1:List Ob} {tr:List Tr} (hm:P.follows .mixedOrders=true) (h:Trace P ops ops.toList t s tr t1 s1) (hd:lY ops ((tr.map Tr.fp).reverse++ [])=true):aV P rd (.region id ops true) t s .norm t1 s1:=
 ⟨fun rr _ K _ _ _ _ _ hw hu ht hdf=>uG h hd hm id hw hu ht rfl rr fun M' own' _ _ le up hw' ht' hd'=>⟨trivial,M',own',hw',up,le,ht',hd'▸hdf.mono le.eL⟩,iv h⟩
theorem qp {P:Program} {a:Act} {g:Operand} {gf:FuncId} {fv cv:Array Value} {l:Nat} (hf:a.eval g= .func (.func gf) fv cv) (w:World):
  (resolve a.eval (rangeCall g l) 0).run P w= .ok { target:= .fn (.func gf) cv,args:=fv++ #[.func (.yield l) #[] #[]] } w:=by
 have e:a.eval (.const (.func (.yield l) #[] #[]))= .func (.yield l) #[] #[]:=rfl
 simp [rangeCall,resolve,hf,Deferred.ofValue,e]
theorem bS.iY {M:MM} {aB:List Nat} :∀ {t:List D} {vs:Array Value} (i:Nat),bS M t vs→bS M (iY aB i t) vs:=by
 intro t vs i h
 have len:∀(t:List D) (i:Nat),(Go.Ev.iY aB i t).length=t.length:=by
  intro t
  induction t with
  |nil=>intro i;rfl
  |cons d r ih=>intro i;simp [Go.Ev.iY,ih]
 have at':∀(t:List D) (i k:Nat) (d:D),(Go.Ev.iY aB i t)[k]? =some d→d= .undef∨t[k]? =some d:=by
  intro t
  induction t with
  |nil=>intro i k d h;simp [Go.Ev.iY] at h
  |cons a r ih=>
   intro i k d h
   cases k with
   |zero=>
    simp only [Go.Ev.iY,List.getElem?_cons_zero,Option.some.injEq] at h
    split at h
    ·exact .inr (by simp [h])
    ·exact .inl h.symm
   |succ k=>simp only [Go.Ev.iY,List.getElem?_cons_succ] at h;simpa using ih _ _ _ h
 refine ⟨by rw [len];exact h.1,fun k d v p q=> ?_⟩
 rcases at' t i k d p with rfl|e
 ·exact .undef v
 ·exact h.2 k d v e q
theorem bS.set {M:MM} {t:List D} {vs:Array Value} (h:bS M t vs) {i:Nat} {d:D} {v:Value} (hr:bk M d v):bS M (t.set i d) (vs.setIfInBounds i v):=by
 refine ⟨by simp [h.1],fun k d' v' p q=> ?_⟩
 by_cases e:k=i
 ·subst e
  have hlt:k<t.length:=by
   rcases Nat.lt_or_ge k t.length with x|x
   ·exact x
   ·rw [List.getElem?_eq_none (by simpa using x)] at p;cases p
  have hlt2:k<vs.size:=by rw [← h.1];exact hlt
  simp [hlt] at p
  simp [hlt2] at q
  subst p q
  exact hr
 ·rw [List.getElem?_set_ne (Ne.symm e)] at p
  rw [Array.getElem?_setIfInBounds_ne (Ne.symm e)] at q
  exact h.2 k d' v' p q
theorem bS.ki {M:MM} :∀ {ps:List Nat} {args:List D} {vs:List Value} {t:List D} {tv:Array Value},bS M t tv→args.length=vs.length→(∀(i:Nat) (d:D) (v:Value),args[i]? =some d→vs[i]? =some v→bk M d v)→
  bS M (ki t (ps.zip args)) ((ps.zip vs).foldl (fun tmps (x:Nat×Value)=>tmps.setIfInBounds x.1 x.2) tv)
 | [],args,vs,t,tv,h,hl,hr=>by simpa [Go.Ev.ki] using h
 |p::ps,[],[],t,tv,h,hl,hr=>by simpa [Go.Ev.ki] using h
 |p::ps,[],v::vs,t,tv,h,hl,hr=>by simp at hl
 |p::ps,d::args,[],t,tv,h,hl,hr=>by simp at hl
 |p::ps,d::args,v::vs,t,tv,h,hl,hr=>by
  simp only [List.zip_cons_cons,Go.Ev.ki,List.foldl_cons]
  exact bS.ki (h.set (hr 0 d v rfl rfl)) (by simpa using hl) (fun i d' v' a b=>hr (i+1) d' v' (by simpa using a) (by simpa using b))
theorem aV.range {g:Operand} {ps:Array Tmp} {ag bd:Code} {t:List D} {s:List Ob} {gf:FuncId} {first cap:List D} {aB:List Nat} {d:D} {s2:List Ob} {k:Lk} {t5:List D} {ps5:Array Nat} {ag5 bd5:Code} {ex:Ex}
  (hg:bI t g= .fn (.func gf) first cap) (hrun:ai P gf (first++(.iq s.length::cap)) (s++ [.lp .ready (iY aB 0 t) ps ag bd]) d s2) (hk:s2.getD s.length .dead= .lp k t5 ps5 ag5 bd5)
  (hex:(k= .ready∧ex= .norm)∨(k= .ret∧ex= .ret)∨∃i,k= .exit i∧ex= .exit i):aV P false (.rangeFunc g ps ag bd) t s ex t (s2.set s.length .dead):=by
 have hlen:=hrun.len
 rw [List.length_append,List.length_singleton] at hlen
 refine ⟨fun rr hrd K w0 M own w a hw hu ht hd=> ?_,by rw [List.length_set];omega⟩
 obtain rfl:=hrd rfl
 have hfr:=mi ht g
 rw [hg] at hfr
 generalize hfv:a.eval g=fval at hfr
 cases hfr with
 |fn h1 h2 r1 r2=>
  rename_i fv cv
  refine wpIn_rangeFunc ?_
  intro fn _
  have hw1:=hw.G2
  obtain ⟨rec,hrec⟩:∃rec:Loop,rec= { state:= .ready,pending:=none,fn,tmps:=a.tmps,params:=ps,assign:=ag,body:=bd,defers:=w.heap.size } :=⟨_,rfl⟩
  have le1:=M.qT w.heap.size
  have hbx:(M.mU w.heap.size).box s.length=none:=hu.1 _ (Nat.le_refl _)
  have hhs:∀v,(M.mU w.heap.size).bG s.length v=none:=fun v=>hu.2 _ v (Nat.le_refl _)
  have hw2:=hw1.G3 (k:= .ready) (t:=iY aB 0 t) (r:=rec) hbx hhs (by rw [hrec];rfl) (fun _=>by rw [hrec];rfl) (by rw [hrec];exact (ht.mono le1).iY 0)
  have le2:=MM.dc (b:=(w.alloc (.deferred (some []))).heap.size) hbx
  have hsz:(w.alloc (.deferred (some []))).heap.size=w.heap.size+1:=World.size_alloc _ _
  rw [show rec.params=ps by rw [hrec],show rec.assign=ag by rw [hrec],show rec.body=bd by rw [hrec],← mW] at hw2
  have hup:((M.mU w.heap.size).aW s.length (w.alloc (.deferred (some []))).heap.size).upto (s++ [Ob.lp .ready (iY aB 0 t) ps ag bd]).length:=by
   rw [List.length_append,List.length_singleton]
   refine ⟨fun i hi=> ?_,fun i v hi=>hu.2 i v (by omega)⟩
   simp only [MM.aW,if_neg (show ¬i=s.length by omega)]
   exact hu.1 i (by omega)
  have hargs:bS ((M.mU w.heap.size).aW s.length (w.alloc (.deferred (some []))).heap.size) (first++(.iq s.length::cap)) ((fv++ #[.func (.yield (w.heap.size+1)) #[] #[]])++cv):=by
   rw [Array.append_assoc]
   refine bS.append (bS.mono ⟨h1,r1⟩ (le1.trans le2)) ?_
   rw [show (D.iq s.length::cap)= [D.iq s.length]++cap from rfl]
   refine bS.append ⟨rfl,fun i d v p q=> ?_⟩ (bS.mono ⟨h2,r2⟩ (le1.trans le2))
   cases i with
   |zero=>
    simp at p q
    subst p q
    exact .iq (by simp [MM.aW,hsz])
   |succ i=>simp at p
  obtain ⟨fnc,code,e1,e2,e3⟩:=hrun.ED
  refine ⟨w.heap.size+1,[{ target:= .collected w.heap.size,args:= #[] }],(w.alloc (.deferred (some []))).alloc (.loop rec),_,_,gf,(fv++ #[.func (.yield (w.heap.size+1)) #[] #[]])++cv,(w.alloc (.deferred (some []))).alloc (.loop rec),?_,qp hfv _,fun _ _=>trivial,?_,fun e=>(by cases e),?_⟩
  ·rw [hrec];exact run_enterLoop_outer _ _ _ _ _
  ·simp only [invoke,callFunc,Sem.run_bind,run_program,Result.andThen_ok,e1,e3,Bool.false_eq_true,if_false,e2,Option.isNone_some,Sem.run_pure]
  have hcall:CallsIn (FW none) (0 - 1) P gf ((fv++ #[.func (.yield (w.heap.size+1)) #[] #[]])++cv) ((w.alloc (.deferred (some []))).alloc (.loop rec)) _:=(callsIn_wide (n:=0)).2 (hrun.run w0 _ _ _ _ hw2 hup hargs)
  refine hcall.mono ?_
  rintro e w3 ⟨v,M',own',rfl,q1,q2,q3,q4⟩
  have le3:M.Le M':=(le1.trans le2).trans q3
  obtain ⟨l,r,q⟩:=q1.lp s.length k t5 ps5 ag5 bd5 hk
  have hbl:M'.box s.length=some (w.heap.size+1):=q3.box _ _ (by simp [MM.aW,hsz])
  have el:l=w.heap.size+1:=by have:=q.box;rw [hbl] at this;exact (Option.some.inj this).symm
  subst el
  have hnb:k≠ .busy:=by rcases hex with ⟨rfl,_⟩|⟨rfl,_⟩|⟨i,rfl,_⟩<;>(intro e;cases e)
  have hst:r.state≠ .busy:=by
   rw [q.st]
   rcases hex with ⟨rfl,_⟩|⟨rfl,_⟩|⟨i,rfl,_⟩<;>(intro e;cases e)
  have hw4:=q1.BT (k':= .ready) (r':= { r with state:= .exhausted }) q .dead (.inl rfl)
  have hlt:s.length<s2.length:=by omega
  rw [← kg hlt] at hw4
  have hd4:fL K M' ({ target:= .collected w.heap.size,args:= #[] } ::a.defers):=by
   obtain ⟨k0,bs,b1,b2,b3⟩:=hd
   have hnew:∀b,M.eL b→b≠w.heap.size:=fun b hb e=>by
    have:=(hw.eL b hb).2
    rw [e] at this
    simp at this
   refine ⟨fun b hb=>le3.eL b (k0 b hb),w.heap.size::bs,by rw [b1];rfl,List.nodup_cons.2 ⟨fun hm=>hnew _ (b3 _ hm).1 rfl,b2⟩,?_⟩
   intro b hb
   rcases List.mem_cons.1 hb with rfl|hb
   ·exact ⟨q3.eL _ (le2.eL _ (.inr rfl)),fun hK=>hnew _ (k0 _ hK) rfl⟩
   ·exact ⟨le3.eL b (b3 b hb).1,(b3 b hb).2⟩
  have fin:∃M' own',bj w0 M' own' (bm (s2.set s.length .dead)) (aZ w3 (w.heap.size+1) (.loop { r with state:= .exhausted }))∧M'.upto (s2.set s.length .dead).length∧M.Le M'∧bS M' t a.tmps∧fL K M' ({ target:= .collected w.heap.size,args:= #[] } ::a.defers):=
   ⟨M',own',hw4,by rw [List.length_set];exact q2,le3,ht.mono le3,hd4⟩
  refine ⟨k.D1,aZ w3 (w.heap.size+1) (.loop { r with state:= .exhausted }),?_,?_⟩
  ·rw [← q.pd hnb]
   exact run_endLoop (P:=P) q.cy hst
  ·rcases hex with ⟨rfl,rfl⟩|⟨rfl,rfl⟩|⟨i,rfl,rfl⟩
   ·exact ⟨trivial,fin⟩
   ·exact wpIn_ret ⟨trivial,fin⟩
   ·exact wpIn_exit ⟨rfl,fin⟩
variable {ρ':Type} {r:ρ'}
theorem ek {inl:yN P ρ'} (hinl:jB P inl) (hm:P.follows .mixedOrders=true):∀ {rd:Bool} (c:Code) {t:List D} {s:List Ob} {z:Z P} {K:Ex→List D→List Ob→Z P→Option ρ'},eO P inl rd c t s z K=some r→
  ∃ex t' s' z',K ex t' s' z'=some r∧(z'.c→z.c∧aV P rd c t s ex t' s')
 |rd,.skip,t,s,z,K,h=>⟨_,_,_,z,by simpa only [eO] using h,fun c=>⟨c,.skip t s⟩⟩
 |rd,.label l,t,s,z,K,h=>⟨_,_,_,z,by simpa only [eO] using h,fun c=>⟨c,.label l t s⟩⟩
 |rd,.exit i,t,s,z,K,h=>⟨_,_,_,z,by simpa only [eO] using h,fun c=>⟨c,.exit i t s⟩⟩
 |rd,.ret,t,s,z,K,h=>⟨_,_,_,z,by simpa only [eO] using h,fun c=>⟨c,.HF t s⟩⟩
 |rd,.scope x,t,s,z,K,h=>by
  rw [eO] at h
  obtain ⟨ex,t',s',z',h1,h2⟩:=ek hinl hm x h
  exact ⟨ex,t',s',z',h1,fun c=>⟨(h2 c).1,(h2 c).2.scope⟩⟩
 |rd,.region id ops draw,t,s,z,K,h=>by
  rw [eO] at h
  obtain ⟨tr,t',s',z',h1,h2⟩:=eR hinl h
  split at h1
  ·exact ⟨_,_,_,z',h1,fun c=>⟨(h2 c).1,.text (h2 c).2⟩⟩
  ·obtain ⟨hd,h1⟩:=aY h1
   exact ⟨_,_,_,z',h1,fun c=>⟨(h2 c).1,.draw hm (h2 c).2 hd⟩⟩
 |rd,.seq x y,t,s,z,K,h=>by
  rw [eO] at h
  obtain ⟨ex,t1,s1,z1,h1,h2⟩:=ek hinl hm x h
  split at h1
  ·obtain ⟨ex',t2,s2,z2,h3,h4⟩:=ek hinl hm y h1
   exact ⟨ex',t2,s2,z2,h3,fun c=>⟨(h2 (h4 c).1).1,(h2 (h4 c).1).2.HD (h4 c).2⟩⟩
  ·rename_i hne
   exact ⟨_,_,_,z1,h1,fun c=>⟨(h2 c).1,(h2 c).2.HC hne⟩⟩
 |rd,.cond q x y,t,s,z,K,h=>by
  rw [eO] at h
  split at h
  ·rename_i b hb
   obtain ⟨z1,⟨h1,h2⟩|⟨h1,h2⟩⟩:=jU h
   ·obtain ⟨ex,t',s',z',h3,h4⟩:=ek hinl hm x h1
    exact ⟨ex,t',s',z',h3,fun c=>⟨(h2 (h4 c).1).1,.cond (b:=true) (by rw [hb,(h2 (h4 c).1).2]) (h4 c).2⟩⟩
   ·obtain ⟨ex,t',s',z',h3,h4⟩:=ek hinl hm y h1
    exact ⟨ex,t',s',z',h3,fun c=>⟨(h2 (h4 c).1).1,.cond (b:=false) (by rw [hb,(h2 (h4 c).1).2]) (h4 c).2⟩⟩
  ·cases h
 |rd,.block id x,t,s,z,K,h=>by
  rw [eO] at h
  split at h
  ·rename_i sp n0 c' t1 s1 ex t2 s2 hg rest _
   split at h
   ·rename_i t' s' hh
    obtain ⟨hn,h'⟩:=aY h
    rw [Nat.beq_eq] at hn
    subst hn
    obtain ⟨z',h1,h2⟩:=mI h'
    exact ⟨ex,t2,s2,_,h1,fun q=>have k:=(h2 q).1;⟨k.2,.yk (k.1.1▸k.1.2.1▸k.1.2.2▸hg) hh (h2 q).2⟩⟩
   ·cases h
  ·obtain ⟨ex,t1,s1,z1,h1,h2⟩:=ek hinl hm x h
   split at h1
   ·rename_i i
    split at h1
    ·rename_i hi
     have hi:i=id:=by simpa using hi
     subst hi
     exact ⟨_,_,_,z1,h1,fun c=>⟨(h2 c).1,(h2 c).2.Gq⟩⟩
    ·rename_i hi
     have hi:i≠id:=fun e=>by subst e;simp at hi
     exact ⟨_,_,_,z1,h1,fun c=>⟨(h2 c).1,(h2 c).2.Dp fun j hj=>by cases hj;exact hi⟩⟩
   ·rename_i hne
    exact ⟨_,_,_,z1,h1,fun c=>⟨(h2 c).1,(h2 c).2.Dp fun j hj=>absurd hj (hne j)⟩⟩
 |rd,.loop x,t,s,z,K,h=>by
  rw [eO] at h
  split at h
  ·obtain ⟨ex,t',s',z',h1,h2⟩:=uZ (c:=x) (fun h=>ek hinl hm x h) h
   exact ⟨ex,t',s',z',h1,fun k=>⟨(h2 k).1,.gM (h2 k).2⟩⟩
  ·rename_i sp n0 c' t1 s1 ex t2 s2 hg rest _
   split at h
   ·rename_i t' s' hh
    obtain ⟨hn,h'⟩:=aY h
    rw [Nat.beq_eq] at hn
    subst hn
    obtain ⟨z',h1,h2⟩:=mI h'
    exact ⟨ex,t2,s2,_,h1,fun q=>have k:=(h2 q).1;⟨k.2,.yk (k.1.1▸k.1.2.1▸k.1.2.2▸hg) hh (h2 q).2⟩⟩
   ·cases h
  ·rename_i c' t1 s1 ex t2 s2 hg rest _
   exact ⟨ex,t2,s2,_,h,fun k=>⟨k.2,.any (k.1.1▸k.1.2.1▸k.1.2.2▸hg) _⟩⟩
  ·cases h
 |rd,.rangeFunc g ps ag bd,t,s,z,K,h=>by
  rw [eO] at h
  split at h
  ·split at h
   ·rename_i gf first cap hg
    rw [eY,m4] at h
    obtain ⟨d,s2,z1,h1,h2⟩:=hinl (.fn gf) _ _ _ _ r h
    split at h1
    ·rename_i hk
     rw [gn] at h1
     exact ⟨_,_,_,z1,h1,fun c=>⟨(h2 c).1,aV.range hg (h2 c).2 hk (.inl ⟨rfl,rfl⟩)⟩⟩
    ·rename_i hk
     rw [gn] at h1
     exact ⟨_,_,_,z1,h1,fun c=>⟨(h2 c).1,aV.range hg (h2 c).2 hk (.inr (.inl ⟨rfl,rfl⟩))⟩⟩
    ·rename_i hk
     rw [gn] at h1
     exact ⟨_,_,_,z1,h1,fun c=>⟨(h2 c).1,aV.range hg (h2 c).2 hk (.inr (.inr ⟨_,rfl,rfl⟩))⟩⟩
    ·cases h1
   ·cases h
  ·rename_i c' t1 s1 ex t2 s2 hg rest _
   exact ⟨ex,t2,s2,_,h,fun k=>⟨k.2,.any (k.1.1▸k.1.2.1▸k.1.2.2▸hg) _⟩⟩
  ·cases h
 |rd,.goto l,t,s,z,K,h=>by
  rw [eO] at h
  split at h
  ·rename_i c' t1 s1 ex t2 s2 hg rest _
   exact ⟨ex,t2,s2,_,h,fun k=>⟨k.2,.any (k.1.1▸k.1.2.1▸k.1.2.2▸hg) _⟩⟩
  ·cases h
  all_goals (intros;rename_i q;cases q)
 |rd,.refuse y,t,s,z,K,h=>by
  rw [eO] at h
  split at h
  ·rename_i c' t1 s1 ex t2 s2 hg rest _
   exact ⟨ex,t2,s2,_,h,fun k=>⟨k.2,.any (k.1.1▸k.1.2.1▸k.1.2.2▸hg) _⟩⟩
  ·cases h
  all_goals (intros;rename_i q;cases q)
def zp (tmps:Array Value):ResultVar→Sem Value
  | .tmp t=>pure (tmps.getD t undef)
  | .cell a t=>do loadVar t (← asAddr (tmps.getD a undef))
theorem wb (fn:Func) (tmps:Array Value):results fn tmps=(do
  let vs ← fn.results.mapM (zp tmps)
  pure (if h:vs.size=1 then vs[0] else .tuple vs)):=by
 unfold results
 rfl
theorem wc {w0:di} {M:MM} {own:Nat→Option Nat} {w:World} {t:List D} {s:List Ob} {tmps:Array Value} (hw:bj w0 M own (bm s) w) (ht:bS M t tmps) {x:ResultVar} {d:D} (h:sB P t s x=some d):
  ∃v,bk M d v∧(zp tmps x).run P w= .ok v w:=by
 cases x with
 |tmp i=>
  simp only [sB,Option.some.injEq] at h
  subst h
  exact ⟨_,ir ht i,by simp [zp]⟩
 |cell a ty=>
  simp only [sB] at h
  split at h
  ·rename_i dyn id off hp
   split at h
   ·rename_i cs hb
    have hx:=ir ht a
    rw [hp] at hx
    generalize hv:tmps.getD a undef=v at hx
    cases hx with
    |ptr _ hbx=>
     rename_i b'
     obtain ⟨b,vs,tt,k⟩:=hw.box id cs hb
     rw [k.box] at hbx
     obtain rfl:=Option.some.inj hbx
     have hcell:∀j c,cs[j]? =some c→w.cell? ⟨b,0+j,none⟩=some (vs.getD j .nilFunc)∧bk M c (vs.getD j .nilFunc):=by
      intro j c hj
      obtain ⟨u,hu,hru⟩:=kP k.len k.rep hj
      rw [Array.getD_eq_getD_getElem?,hu]
      refine ⟨?_,hru⟩
      simp [World.cell?,k.cy,hu]
     have hp':kJ P ty cs off d:=by
      split at h
      ·rename_i e he
       split at h
       ·rename_i ha
        split at h
        ·rename_i hk
         simp only [Bool.and_eq_true,Nat.ble_eq] at hk
         exact ⟨e,he,.inl ⟨ha,hk.2,(Option.some.inj h).symm⟩⟩
        ·cases h
       ·rename_i ha
        exact ⟨e,he,.inr ⟨ha,h⟩⟩
      ·cases h
     obtain ⟨u,h1,h2⟩:=iw hp' (fun j=>vs.getD j .nilFunc) hcell
     rw [Nat.zero_add] at h1
     refine ⟨u,h2,?_⟩
     simp only [zp,hv,asAddr,Sem.run_bind,Sem.run_pure,Result.andThen_ok,h1]
   ·cases h
  ·cases h
theorem uA {w0:di} {M:MM} {own:Nat→Option Nat} {w:World} {t:List D} {s:List Ob} {tmps:Array Value} (hw:bj w0 M own (bm s) w) (ht:bS M t tmps):∀ {l:List ResultVar} {ds:List D},we P t s l=some ds→
  ∃vs:List Value,ds.length=vs.length∧(∀(i:Nat) (d:D) (v:Value),ds[i]? =some d→vs[i]? =some v→bk M d v)∧Sem.run P (List.mapM (zp tmps) l) w= .ok vs w
 | [],ds,h=>by
  simp only [we,Option.some.injEq] at h
  subst h
  exact ⟨[],rfl,fun i d v h=>by simp at h,by simp⟩
 |x::l,ds,h=>by
  simp only [we] at h
  split at h
  ·rename_i d ds' hd hl
   obtain rfl:=Option.some.inj h
   obtain ⟨v,h1,h2⟩:=wc hw ht hd
   obtain ⟨vs,k1,k2,k3⟩:=uA hw ht hl
   refine ⟨v::vs,by simp [k1],?_,?_⟩
   ·intro i d' v' a b
    cases i with
    |zero=>simp at a b;subst a b;exact h1
    |succ i=>simp at a b;exact k2 i d' v' a b
   ·rw [List.mapM_cons,Sem.run_bind,h2,Result.andThen_ok,Sem.run_bind,k3,Result.andThen_ok,Sem.run_pure]
  ·cases h
theorem uz {w0:di} {M:MM} {own:Nat→Option Nat} {w:World} {t:List D} {s:List Ob} {tmps:Array Value} {fn:Func} (hw:bj w0 M own (bm s) w) (ht:bS M t tmps) {ds:List D} (h:we P t s fn.results.toList=some ds):
  ∃v,bk M (wg ds) v∧(results fn tmps).run P w= .ok v w:=by
 obtain ⟨vs,k1,k2,k3⟩:=uA hw ht h
 have e:(results fn tmps).run P w= .ok (if h:vs.length=1 then vs[0] else .tuple vs.toArray) w:=by
  have hr:fn.results=fn.results.toList.toArray:=by simp
  rw [wb,hr,List.mapM_toArray,Sem.run_bind]
  rw [show (List.toArray<$>List.mapM (zp tmps) fn.results.toList:Sem (Array Value)).run P w= .ok vs.toArray w by
   rw [map_eq_pure_bind,Sem.run_bind,k3];simp]
  simp
 refine ⟨_,?_,e⟩
 cases ds with
 |nil=>
  cases vs with
  |nil=>simp only [wg];exact .aA rfl (fun i d v a=>by simp at a)
  |cons a b=>simp at k1
 |cons d ds=>
  cases ds with
  |nil=>
   cases vs with
   |nil=>simp at k1
   |cons a b=>
    cases b with
    |nil=>simp only [wg];exact k2 0 d a rfl rfl
    |cons b c=>simp at k1
  |cons d2 ds=>
   cases vs with
   |nil=>simp at k1
   |cons a b=>
    cases b with
    |nil=>simp at k1
    |cons b c=>simp only [wg];exact .aA (by simpa using k1) (fun i d v p q=>k2 i d v p (by simpa using q))
theorem my {fn:Func} {tmps:Array Value} {R:Ending→World→Prop} {w0:di} {own:Nat→Option Nat} {σ:Nat→Ob} :∀(bs:List Nat) {M:MM} {w:World},bj w0 M own σ w→bs.Nodup→(∀b∈bs,M.eL b)→
  (∀(f:Nat→Prop) (w2:World),(∀b,M.eL b→b∉bs→f b)→bj w0 { M with eL:=f } own σ w2→∃v,(results fn tmps).run P w2= .ok v w2∧R (.returned v) w2)→
  LeavesInM Fence.wide 0 P fn tmps R (bs.map fun b=> { target:= .collected b,args:= #[] }) .returning w
 | [],M,w,hw,_,_,h=>h M.eL w (fun _ hb _=>hb) hw
 |b::bs,M,w,hw,hn,hb,h=>by
  obtain ⟨hn1,hn2⟩:=List.nodup_cons.1 hn
  refine ⟨fun e=>(by cases e),.inl ⟨b,_,rfl,run_takeDeferred (hw.eL b (hb b (by simp))).2,?_⟩⟩
  refine my bs (hw.sm (hb b (by simp))) hn2 (fun c hc=>⟨hb c (by simp [hc]),fun e=>hn1 (e▸hc)⟩) fun f w2 hf hw2=> ?_
  exact h f w2 (fun c hc hm=>hf c ⟨hc,fun e=>hm (by simp [e])⟩ (fun hm2=>hm (by simp [hm2]))) hw2
theorem rE {inl:yN P ρ'} (hinl:jB P inl) (hm:P.follows .mixedOrders=true) {f:FuncId} {fn:Func} (hf:P.funcs[f]? =some fn) (hn:(fn.name== "runtime.NumGoroutine")=false)
  {args:List D} {s:List Ob} {z:Z P} {K:D→List Ob→Z P→Option ρ'} (h:rF P inl fn args s z K=some r):∃d s' z',K d s' z'=some r∧(z'.c→z.c∧ai P f args s d s'):=by
 unfold rF at h
 split at h
 ·rename_i c hc
  obtain ⟨hle,h⟩:=aY h
  rw [eY] at h
  obtain ⟨ex,t',s',z',h1,h2⟩:=ek (rd:=false) hinl hm c h
  have main:∀ {l},we P t' s' fn.results.toList=some l→(∀i,ex≠ .exit i)→aV P false c (args++List.replicate (fn.ntmps - args.length) .undef) s ex t' s'→ai P f args s (wg l) s':=by
   intro l hl hex hrun
   refine ⟨⟨fn,c,hf,hc,hn⟩,hrun.len,?_⟩
   intro w0 M own w vs hw hu ha
   refine (callsIn_wide (n:=0)).1 (callsIn_of_wp_marks hf hc trivial (wpIn_mono (hrun.run none (fun _=>rfl) M.eL w0 M own w _ hw hu ?_ ⟨fun _ h=>h,[],rfl,List.nodup_nil,fun b hb=>by cases hb⟩) ?_))
   ·refine ha.append ⟨by simp [ha.1],fun i d v p q=> ?_⟩
    rw [List.getElem?_replicate] at p
    split at p
    ·obtain rfl:=Option.some.inj p;exact .undef v
    ·cases p
   ·rintro e a' w' ⟨h0,M',own',q1,q2,q3,q4,_,bs,b1,b2,b3⟩
    have fin:LeavesInM Fence.wide 0 P fn a'.tmps (fun e w'=> ∃v M' own',e= .returned v∧bj w0 M' own' (bm s') w'∧M'.upto s'.length∧M.Le M'∧bk M' (wg l) v) a'.defers .returning w':=by
     rw [b1]
     refine my bs q1 b2 (fun b hb=>(b3 b hb).1) fun f w2 hf2 hw2=> ?_
     have q4':bS { M' with eL:=f } t' a'.tmps:=⟨q4.1,fun i d v p q=>(q4.2 i d v p q).G1⟩
     obtain ⟨v,r1,r2⟩:=uz hw2 q4' hl
     exact ⟨v,r2,v,_,own',rfl,hw2,⟨q2.1,q2.2⟩,⟨q3.cell,q3.box,q3.bG,fun b hb=>hf2 b (q3.eL b hb) (fun hm=>(b3 b hm).2 hb)⟩,r1⟩
    cases ex with
    |exit i=>exact absurd rfl (hex i)
    |norm=>cases e<;>simp only [Ex.is] at h0;exact fin
    |ret=>cases e<;>simp only [Ex.is] at h0;exact fin
  split at h1
  ·cases h1
  ·rename_i hex
   split at h1
   ·rename_i l hl
    exact ⟨_,_,z',h1,fun c=>⟨(h2 c).1,main hl (fun i hi=>hex i hi) (h2 c).2⟩⟩
   ·cases h1
 ·cases h
theorem v8 {inl:yN P ρ'} (hinl:jB P inl) (hm:P.follows .mixedOrders=true) {id:Nat} {args:List D} {s:List Ob} {z:Z P} {K:D→List Ob→Z P→Option ρ'} (h:v9 P inl id args s z K=some r):
  ∃d s' z',K d s' z'=some r∧(z'.c→z.c∧tP P id args s d s'):=by
 unfold v9 at h
 split at h
 ·rename_i t ps ag bd hs
  obtain ⟨hle,h⟩:=aY h
  rw [Nat.beq_eq] at hle
  rw [eY] at h
  obtain ⟨ex,t2,s2,z1,h1,h2⟩:=ek (rd:=true) hinl hm ag h
  split at h1
  ·split at h1
   ·rename_i t' ps' ag' bd' hs2
    rw [gn] at h1
    obtain ⟨ex2,t4,s4,z2,h3,h4⟩:=ek (rd:=true) hinl hm bd h1
    split at h3
    ·rename_i t5 ps5 ag5 bd5 hs4
     have main:∀(k:Lk) (j:Option Code),((ex2= .norm∧k= .ready∧j=none)∨(ex2= .ret∧k= .ret∧j=some .ret)∨∃i,ex2= .exit i∧k= .exit i∧j=some (.exit i))→
       aV P true ag (ki t (ps.toList.zip args)) s .norm t2 s2→aV P true bd t2 (s2.set id (.lp .busy t' ps' ag' bd')) ex2 t4 s4→tP P id args s (.bool j.isNone) (s4.set id (.lp k t5 ps5 ag5 bd5)):=by
      intro k j hkj hrun1 hrun2
      have hl2:=hrun2.len
      rw [List.length_set] at hl2
      refine ⟨by rw [List.length_set];exact Nat.le_trans hrun1.len hl2,?_⟩
      intro w0 M own w vs l hw hu ha hb
      obtain ⟨l',rc,q⟩:=hw.lp id _ _ _ _ _ hs
      obtain rfl:l'=l:=by have:=q.box;rw [hb] at this;exact (Option.some.inj this).symm
      have hsz:vs.size=rc.params.size:=by rw [← ha.1,hle,q.ps]
      refine ⟨_,_,_,_,run_yield q.cy hsz,?_⟩
      have htm:bS M (ki t (ps.toList.zip args)) ((rc.params.zip vs).foldl (fun tmps (x:Nat×Value)=>tmps.setIfInBounds x.1 x.2) rc.tmps):=by
       have:=bS.ki (ps:=ps.toList) (args:=args) (vs:=vs.toList) q.tm (by rw [ha.1];simp) (fun i d v p u=>ha.2 i d v p (by simpa using u))
       rw [q.ps,← Array.foldl_toList,Array.toList_zip]
       exact this
      refine roundIn_of_wpIn (F:=Fence.wide) (n:=0) trivial ?_
      rw [q.ag,q.bd]
      refine wpIn_mono (hrun1.run (some l') (fun e=>by cases e) M.eL w0 M own w _ hw hu htm ⟨fun _ h=>h,[],rfl,List.nodup_nil,fun b hb=>by cases hb⟩) ?_
      rintro e a1 w1 ⟨h0,M1,own1,q1,q2,q3,q4,q5⟩
      cases e<;>simp only [Ex.is] at h0
      obtain ⟨l1,rc1,p1⟩:=q1.lp id _ _ _ _ _ hs2
      obtain rfl:l1=l':=by have:=p1.box;rw [q3.box _ _ hb] at this;exact (Option.some.inj this).symm
      have hlt2:=cJ (s:=s2) (i:=id) (by rw [hs2];simp)
      have hw2:=q1.BT (k':= .busy) (r':= { rc1 with state:= .busy }) p1 (.lp .busy t' ps' ag' bd') (.inr ⟨rfl,rfl,fun e=>absurd rfl e,rfl,rfl,rfl,rfl⟩)
      rw [← kg hlt2] at hw2
      refine ⟨_,run_beginRound p1.cy p1.st,?_⟩
      refine wpIn_mono (hrun2.run (some l1) (fun e=>by cases e) M.eL w0 M1 own1 _ a1 hw2 (by rw [List.length_set];exact q2) q4 q5) ?_
      rintro e2 a2 w3 ⟨h0',M2,own2,u1,u2,u3,u4,u5⟩
      obtain ⟨l2,rc2,p2⟩:=u1.lp id _ _ _ _ _ hs4
      obtain rfl:l2=l1:=by have:=p2.box;rw [u3.box _ _ (q3.box _ _ hb)] at this;exact (Option.some.inj this).symm
      have hlt4:=cJ (s:=s4) (i:=id) (by rw [hs4];simp)
      have hw4:=u1.BT (k':=k) (r':= { rc2 with state:=if j.isNone then .ready else .done,pending:=j }) p2 (.lp k t5 ps5 ag5 bd5) (.inr ⟨rfl,by
       rcases hkj with ⟨_,rfl,rfl⟩|⟨_,rfl,rfl⟩|⟨i,_,rfl,rfl⟩<;>rfl,fun _=>by
       rcases hkj with ⟨_,rfl,rfl⟩|⟨_,rfl,rfl⟩|⟨i,_,rfl,rfl⟩<;>rfl,rfl,rfl,rfl,rfl⟩)
      rw [← kg hlt4] at hw4
      have fin:∃v w',(Instr.endRound l2 j).run P w3= .ok v w'∧∃v' M' own',Ending.returned v= .returned v'∧bj w0 M' own' (bm (s4.set id (.lp k t5 ps5 ag5 bd5))) w'∧M'.upto (s4.set id (.lp k t5 ps5 ag5 bd5)).length∧M.Le M'∧bk M' (.bool j.isNone) v':=
       ⟨_,_,run_endRound j p2.cy,_,M2,own2,rfl,hw4,by rw [List.length_set];exact u2,q3.trans u3,.bool _⟩
      rcases hkj with ⟨rfl,rfl,rfl⟩|⟨rfl,rfl,rfl⟩|⟨i,rfl,rfl,rfl⟩
      ·cases e2<;>simp only [Ex.is] at h0'
       exact fin
      ·cases e2<;>simp only [Ex.is] at h0'
       exact fin
      ·cases e2<;>simp only [Ex.is] at h0'
       subst h0'
       exact fin
     split at h3
     ·rw [gn] at h3
      exact ⟨_,_,z2,h3,fun c=>⟨(h2 (h4 c).1).1,main .ready none (.inl ⟨rfl,rfl,rfl⟩) (h2 (h4 c).1).2 (h4 c).2⟩⟩
     ·rw [gn] at h3
      exact ⟨_,_,z2,h3,fun c=>⟨(h2 (h4 c).1).1,main .ret (some .ret) (.inr (.inl ⟨rfl,rfl,rfl⟩)) (h2 (h4 c).1).2 (h4 c).2⟩⟩
     ·rename_i i
      rw [gn] at h3
      exact ⟨_,_,z2,h3,fun c=>⟨(h2 (h4 c).1).1,main (.exit i) (some (.exit i)) (.inr (.inr ⟨i,rfl,rfl,rfl⟩)) (h2 (h4 c).1).2 (h4 c).2⟩⟩
    ·cases h3
   ·cases h1
  ·cases h1
 ·cases h
theorem gR (hm:P.follows .mixedOrders=true):∀n:Nat,jB P (pG (ρ:=ρ') P n)
 |0=>fun g args s z K r h=>by simp [pG] at h
 |n+1=>fun g args s z K r h=>by
  rw [pG] at h
  simp only [] at h
  cases g with
  |fn f=>
   simp only [] at h
   split at h
   ·rename_i fn hf
    obtain ⟨hn,h⟩:=aY h
    exact rE (gR hm n) hm hf (by simpa using hn) h
   ·cases h
  |yl id=>
   simp only [] at h
   exact v8 (gR hm n) hm h
end
section
variable {P:Program}
theorem nE {M:MM} {s:List Ob} {d:D} {v:Value} (h:bk M d v) (hc:d.clean=true):bk (eB M.cell) (iR s d) v:=by
 unfold iR
 split
 ·rename_i id ver sz xs
  have h1:=h.oJ hc
  have:∀o:jW,(o= .no∨∃k,o= .fresh k)→bk (eB M.cell) (.aj o sz xs) v:=by
   intro o ho
   cases h1 with
   |aj b off vs hl hcap ha hsz hcc hr hst _=>exact .aj b off vs hl hcap ha hsz hcc hr hst (by rcases ho with rfl|⟨k,rfl⟩<;>trivial)
  split
  ·split
   ·exact this _ (.inr ⟨_,rfl⟩)
   ·exact this _ (.inl rfl)
  ·exact this _ (.inl rfl)
 ·exact h.oJ hc
theorem tp {d:D} {sz sz':Nat} {xs:List D} :d.aX≠ .aj (.fresh sz) sz' xs:=by
 intro h
 cases d<;>simp only [D.aX,reduceCtorEq] at h
 case aj o _ _=>cases o<;>simp [jW.aX] at h
theorem lJ {w0:di} (hX:∀b,¬w0.X b→w0.w.heap.size≤b) {M:MM} {own:Nat→Option Nat} {w:World} {s:List Ob} (hw:bj w0 M own (bm s) w) {d:D} {v:Value} (h:bk M d v) {sz sz':Nat} {xs:List D} (e:iR s d= .aj (.fresh sz) sz' xs):
  ∃a len cap,v= .slice a len cap∧sz'=sz∧iu w0.w.heap.size w M.cell sz a len cap:=by
 unfold iR at e
 split at e
 ·rename_i id ver sz0 xs0
  split at e
  ·rename_i v' sz2 hs
   split at e
   ·rename_i hb
    simp only [Bool.and_eq_true,Nat.beq_eq] at hb
    obtain ⟨rfl,rfl⟩:=hb
    simp only [D.aj.injEq,jW.fresh.injEq] at e
    obtain ⟨rfl,rfl,rfl⟩:=e
    obtain ⟨a,len,cap,k⟩:=hw.bX id ver sz0 hs
    cases h with
    |aj b off vs hl hcap ha hsz hcc hr hst ho=>
     have:M.bG id ver=some _:=ho
     rw [k.bG] at this
     obtain ⟨rfl,rfl,rfl⟩:=Value.slice.inj (Option.some.inj this)
     refine ⟨_,_,_,rfl,rfl,?_⟩
     rcases k.room with q|⟨b,vs,ty,fz,q,r⟩
     ·exact .inl q
     ·exact .inr ⟨b,vs,ty,fz,q,hX _ r.base,r.cy,r.fz,r.cap,r.none⟩
   ·cases e
  ·cases e
 ·exact absurd e tp
theorem B5 {w0:di} (hX:∀b,¬w0.X b→w0.w.heap.size≤b) {M:MM} {own:Nat→Option Nat} {w:World} {s:List Ob} (hw:bj w0 M own (bm s) w) {d:D} {v:Value} (h:bk M d v) (hc:d.clean=true):bk (eB M.cell) (Ad s d) v∧xW w0.w.heap.size w M.cell (Ad s d) v:=by
 by_cases ht:∃ds,d= .aA ds
 ·obtain ⟨ds,rfl⟩:=ht
  cases h with
  |aA hl r=>
   rename_i vs
   rw [D.clean,D.jA,List.all_eq_true] at hc
   refine ⟨.aA (by simpa using hl) ?_,?_,?_⟩
   ·intro i d v a b
    rw [List.getElem?_map,Option.map_eq_some_iff] at a
    obtain ⟨d0,h0,rfl⟩:=a
    exact nE (r i d0 v h0 b) (hc _ (List.mem_of_getElem? h0))
   ·intro sz sz' xs e;simp [Ad] at e
   ·intro ds' vs' e1 e2 i sz sz' xs hi
    simp only [Ad,D.aA.injEq] at e1
    obtain rfl:=Value.tuple.inj e2
    subst e1
    rw [List.getElem?_map,Option.map_eq_some_iff] at hi
    obtain ⟨d0,h0,e⟩:=hi
    have hlt:i<vs.size:=by
     rw [← hl]
     rcases Nat.lt_or_ge i ds.length with q|q
     ·exact q
     ·rw [List.getElem?_eq_none q] at h0;cases h0
    obtain ⟨a,len,cap,k1,k2,k3⟩:=lJ hX hw (r i d0 vs[i] h0 (by simp [hlt])) e
    exact ⟨a,len,cap,by simp [hlt,k1],k2,k3⟩
 ·have e:Ad s d=iR s d:=by
   cases d<;>first|rfl|exact absurd ⟨_,rfl⟩ ht
  rw [e]
  refine ⟨nE h hc,fun sz sz' xs q=>lJ hX hw h q,fun ds vs q=> ?_⟩
  exfalso
  unfold iR at q
  split at q
  ·split at q
   ·split at q<;>cases q
   ·cases q
  ·cases d<;>simp only [D.aX,reduceCtorEq] at q
   exact ht ⟨_,rfl⟩
theorem aE.ae (hm:P.follows .mixedOrders=true) {f:FuncId} {fn:Func} (hf:P.funcs[f]? =some fn) (hn:(fn.name== "runtime.NumGoroutine")=false) {args:List D} {d:D} (o:List (Ev P))
  (h:ti P fn args o=some (d,o7 o True)):aE P f args d:=by
 unfold ti at h
 obtain ⟨d0,s',z',h1,h2⟩:=rE (gR hm 20) hm hf hn h
 obtain ⟨hc,h1⟩:=aY h1
 split at h1
 ·simp only [Option.some.injEq,Prod.mk.injEq] at h1
  obtain ⟨rfl,hz⟩:=h1
  have hrun:=(h2 (by rw [hz];exact jF o trivial)).2
  refine ⟨hrun.ED,fun w C vs hC ha=>Calls.mono (hrun.run ⟨w,C,fun k=>k<w.heap.size⟩ (eB C) (fun _=>none) w vs ?_ ⟨fun _ _=>rfl,fun _ _ _=>rfl⟩ ha) ?_⟩
  ·refine ⟨.of _,hC,?_,?_,?_,?_,?_,?_,fun b hb=>hb.elim⟩
   ·intro b o v k _;exact k
   ·intro b i k;cases k
   ·intro i cs k;simp [bm] at k
   ·intro i v sz k;simp [bm] at k
   ·intro i F q;simp [bm,Ob.Em] at q
   ·intro i k t ps ag bd q;simp [bm] at q
  ·rintro e w' ⟨v,M',own',rfl,q1,q2,q3,q4⟩
   obtain ⟨r1,r2⟩:=B5 (fun _ h=>Nat.le_of_not_lt h) q1 q4 hc
   exact ⟨v,M'.cell,rfl,⟨q1.below.below,q3.cell,q1.iz,q1.cells⟩,r1,r2⟩
 ·cases h1
theorem aE.cast {f:FuncId} {args args':List D} {d d':D} (h:aE P f args d) (ha:args=args') (hd:d=d'):aE P f args' d':=ha▸hd▸h
theorem jZ.ae (hm:P.follows .mixedOrders=true) {c:Code} {t:List D} {s:List Ob} {ex:Ex} {t':List D} {s':List Ob} (o:List (Ev P))
  (h:evalCode P c t s o=some ((ex,t',s'),o7 o True)):jZ P c t s ex t' s':=by
 unfold evalCode at h
 obtain ⟨ex1,t1,s1,z',h1,h2⟩:=ek (rd:=true) (gR hm 20) hm c h
 split at h1
 ·simp only [Option.some.injEq,Prod.mk.injEq] at h1
  obtain ⟨⟨rfl,rfl,rfl⟩,hz⟩:=h1
  exact (h2 (by rw [hz];exact jF o trivial)).2
 ·cases h1
structure bF (P:Program) (c:Code) (sp:HS) (n0:Nat) (t:List D) (s:List Ob) (ex:Ex) (t':List D) (s':List Ob):Prop where
  run:∃t1 s1,jZ P c t s ex t1 s1∧mz sp n0 t1 s1=some (t',s')∧pK sp t1 s1
theorem bF.ae (hm:P.follows .mixedOrders=true) {c:Code} {sp:HS} {n0:Nat} {t:List D} {s:List Ob} {ex:Ex} {t':List D} {s':List Ob} (o:List (Ev P))
  (h:rz P c sp n0 t s o=some ((ex,t',s'),o7 o True)):bF P c sp n0 t s ex t' s':=by
 unfold rz at h
 obtain ⟨ex1,t1,s1,z',h1,h2⟩:=ek (rd:=true) (gR hm 20) hm c h
 split at h1
 ·rename_i t2 s2 hh
  obtain ⟨z2,h3,h4⟩:=mI h1
  split at h3
  ·simp only [Option.some.injEq,Prod.mk.injEq] at h3
   obtain ⟨⟨rfl,rfl,rfl⟩,hz⟩:=h3
   have hz2:=h4 (by rw [hz];exact jF o trivial)
   exact ⟨t1,s1,(h2 hz2.1).2,hh,hz2.2⟩
  ·cases h3
 ·cases h1
theorem cK.iM {c:Code} {sp:HS} {n0:Nat} {t t2:List D} {s s2:List Ob} {ex:Ex} {t':List D} {s':List Ob} (h:bF P c sp n0 t s .norm t2 s2) (k:cK P c n0 t2 s2 ex t' s'):cK P c n0 t s ex t' s':=
 let ⟨_,_,h1,h2,h3⟩:=h.run
 .again sp h1 h2 h3 k
theorem cK.last {c:Code} {sp:HS} {n0:Nat} {t:List D} {s:List Ob} {ex:Ex} {t':List D} {s':List Ob} (h:bF P c sp n0 t s ex t' s') (hx:ex≠ .norm):cK P c n0 t s ex t' s':=
 let ⟨_,_,h1,h2,h3⟩:=h.run
 .out sp h1 hx h2 h3
def nT (aB:List Nat):Nat→List Ob→List Ob
  |_,[]=> []
  |i,o::r=>(match iC i aB with|true=>o|false=> .dead)::nT aB (i+1) r
def vu (P:Program) (g:FuncId) (args:List D) (s:List Ob) (aB:List Nat) (o:List (Ev P)):Option ((D×List Ob)×Prop):=
  pG P 20 (.fn g) args s ⟨o,True⟩ fun d s' z=>match z.o with| []=>some ((d,nT aB 0 s'),z.c)|_=>none
theorem nA (aB:List Nat):∀(s:List Ob) (i:Nat),(nT aB i s).length=s.length
 | [],_=>rfl
 |o::r,i=>by simp [nT,nA aB r]
theorem vA (aB:List Nat):∀(s:List Ob) (i k:Nat),(nT aB i s).getD k .dead=s.getD k .dead∨(nT aB i s).getD k .dead= .dead
 | [],_,_=> .inl rfl
 |o::r,i,0=>by
  simp only [nT,List.getD_cons_zero]
  split
  ·exact .inl rfl
  ·exact .inr rfl
 |o::r,i,k+1=>by simp only [nT,List.getD_cons_succ];exact vA aB r (i+1) k
theorem bj.sub {w0:di} {M:MM} {own:Nat→Option Nat} {σ σ':Nat→Ob} {w:World} (h:bj w0 M own σ w) (hs:∀i,σ' i=σ i∨σ' i= .dead):bj w0 M own σ' w:=by
 have at':∀ {i:Nat} {o:Ob},σ' i=o→o≠ .dead→σ i=o:=fun {i o} e hn=>by
  rcases hs i with q|q
  ·rw [← q];exact e
  ·exact absurd (e▸q:o= .dead) hn
 exact ⟨h.below,h.cells,h.iz,h.owned,fun i cs e=>h.box i cs (at' e (by simp)),fun i v sz e=>h.bX i v sz (at' e (by simp)),(fun i F e=>(hs i).elim (fun q=>h.mp i F (by rw [← q];exact e)) (fun q=>by rw [q] at e;cases e)),
  fun i k t ps ag bd e=>h.lp i k t ps ag bd (at' e (by simp)),h.eL⟩
theorem ai.ae (hm:P.follows .mixedOrders=true) {g:FuncId} {args:List D} {s:List Ob} {d:D} {s':List Ob} {aB:List Nat} (o:List (Ev P))
  (h:vu P g args s aB o=some ((d,s'),o7 o True)):ai P g args s d s':=by
 unfold vu at h
 obtain ⟨d1,s1,z',h1,h2⟩:=gR hm 20 (.fn g) args s _ _ _ h
 split at h1
 ·simp only [Option.some.injEq,Prod.mk.injEq] at h1
  obtain ⟨⟨rfl,rfl⟩,hz⟩:=h1
  have hrun:ai P g args s d1 s1:=(h2 (by rw [hz];exact jF o trivial)).2
  refine ⟨hrun.ED,by rw [nA];exact hrun.len,fun w0 M own w vs hw hu ha=>Calls.mono (hrun.run w0 M own w vs hw hu ha) ?_⟩
  rintro e w' ⟨v,M',own',rfl,q1,q2,q3,q4⟩
  exact ⟨v,M',own',rfl,q1.sub (fun i=>vA aB s1 0 i),by rw [nA];exact q2,q3,q4⟩
 ·cases h1
theorem ai.cast {g:FuncId} {args:List D} {s:List Ob} {d d':D} {s1 s2:List Ob} (h:ai P g args s d s1) (h1:d=d') (h2:s1=s2):ai P g args s d' s2:=h1▸h2▸h
end
variable {P:Program}
def Ha (s:List Ob) (id sz n:Nat):Option D:=match s.getD id .dead with
  | .box cs=>match Nat.beq cs.length (n*sz)&&cs.all D.clean&&cs.all (fun c=>storable c.aX) with
    |true=>some (.aj .no sz (rows sz n (cs.map D.aX)))
    |false=>none
  |_=>none
def He (P:Program) (fn:Func) (args:List D) (o:List (Ev P)):Option (D×Prop):=
  rF P (pG P 20) fn args [] ⟨o,True⟩ fun d s z=>match d with
    | .aA (.dn id sz n::r)=>match Ha s id sz n with
      |some x=>gk (r.all D.clean) (match z.o with| []=>some (.aA (x::r.map D.aX),z.c)|_=>none)
      |none=>none
    |_=>none
def Hd (P:Program) (fn:Func) (args:List D) (o:List (Ev P)):Option ((D×List Ob)×Prop):=
  rF P (pG P 20) fn args [] ⟨o,True⟩ fun d s z=>match z.o with| []=>some ((d,s),z.c)|_=>none
def Iq (s:List Ob) (d:D):Option D:=match d with
  | .aA (.dn id sz n::r)=>match Ha s id sz n with
    |some x=>some (.aA (x::r.map D.aX))
    |none=>none
  |_=>none
end Go.Ev
