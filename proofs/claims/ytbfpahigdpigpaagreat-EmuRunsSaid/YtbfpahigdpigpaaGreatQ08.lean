import Derived.Test.YtbfpahigdpigpaaGreatProg
import Derived.Test.YtbfpahigdpigpaaGreatQ05
import Derived.Test.YtbfpahigdpigpaaGreatQ06
import Derived.Test.YtbfpahigdpigpaaGreatQ07
open List renaming replicate→Z7,length→aaa,getD_eq_getElem?_getD→aaf,length_append→aap,length_cons→aaw,length_nil→aaC,length_set→aa1,append_nil→aba,mem_cons→abj,isPrefixOf_iff_prefix→abo
open BitVec renaming ofInt→Z8,toNat→aab
open Go.Proofs.Tryz renaming prog→Z9
open Bool renaming and_eq_true→aae,not_eq_true'→aaK,not_eq_false'→aaU
open And renaming intro→aaj
open Int renaming toNat→aal,fdiv→aaQ,toNat_natCast→abt
open Go renaming IntKind→abz
/- Contracts and plain laws that a statement's proof leans on (texts merged:MdK1,MdK2,MdK3,MdK4,MdEm,MdW,MdF2,MdE,MdP,MdS,MdP3,MdEn,eJ,EMA0,Az,XP0,XP1,XP1A,XP2,XP2A). -/
set_option linter.unusedVariables false
set_option linter.unusedSimpArgs false
set_option maxRecDepth 100000
set_option maxHeartbeats 8000000
namespace Go.Ev
open Go
def kj.may (x:kj):Bool:=Sc x.kind x.op x.width x.size x.fI x.ab x.ae x.off x.aj
def TR (l:List kj):List D:=l.map kj.d
def Jc (i kind off:Int):Bool:=(kind==3||kind==4)&&(decide (-1099511627776≤i∧i≤1099511627776)&&decide (-1099511627776≤off∧off≤1099511627776))
def F8 (i kind off:Int):Int:=if Jc i kind off=true then i+1+off else 0
def Ly (n:Int):Int→List kj→Option (Int×Int)
  |_,[]=>none
  |i,x::r=>if x.may=false then some (i,31) else if Jc i x.kind x.off=true∧¬(0≤F8 i x.kind x.off∧F8 i x.kind x.off<n) then some (i,32) else Ly n (i+1) r
def ya (l:List kj) (i:Nat):Int:=match l[i]? with|some x=>x.kind|none=>0
def Sq (ctx:Int) (l:List kj):Int×Int:=
  if ctx<0∨256<ctx then (0,2) else if l.length<1∨64<l.length then (0,3)
  else match Ly l.length 0 l with
    |some r=>r
    |none=>if ya l (l.length - 1)=4∨ya l (l.length - 1)=6 then (0,0) else (l.length - 1,33)
def Jp (k:Int):Bool:=k==3||k==4||k==6
def P7 (es:List (Int×D)) (k:Int) (x:kj):List (Int×D):=
  if Jc k x.kind x.off=true then nB (if Jp x.kind=true then nB es (k+1) (ax true) else es) (F8 k x.kind x.off) (ax true)
  else if Jp x.kind=true then nB es (k+1) (ax true) else es
def Q9 (l:List kj):Nat→List (Int×D)
  |0=> [(0,ax true)]
  |k+1=>match l[k]? with
    |some x=>P7 (Q9 l k) k x
    |none=>Q9 l k
def Sr (l:List kj) (k:Nat) (i:Int):Bool:=match l[k]? with
  |some x=>(Jp x.kind&&i==(k:Int)+1)||(Jc k x.kind x.off&&i==F8 k x.kind x.off)
  |none=>false
def Q8 (l:List kj) (i:Int):Nat→Bool
  |0=>i==0
  |k+1=>Q8 l i k||Sr l k i
def TM (l:List kj) (i:Int):Bool:=Q8 l i l.length
structure TV (l:List kj):Prop where
  pos:1≤l.length
  le:l.length≤64
  may:∀j (h:j<l.length),l[j].may=true
  TN:∀j (h:j<l.length),Jc j l[j].kind l[j].off=true→0≤F8 j l[j].kind l[j].off∧F8 j l[j].kind l[j].off<l.length
  last:ya l (l.length - 1)=4∨ya l (l.length - 1)=6
theorem na {l:List D} {i:Nat} {x:D} (h:(i:Int)<(l.length:Int)):nM l i [x] (l.set i x):=by
 refine ⟨?_,by simp;omega⟩
 rw [List.set_eq_take_append_cons_drop,if_pos (by omega)]
 rfl
theorem D8 {l:List D} {i:Nat} {x:D} (h:∀c∈l,c.clean=true) (hx:x.clean=true):∀c∈l.set i x,c.clean=true:=by
 intro c hc
 rcases List.mem_or_eq_of_mem_set hc with q|rfl
 ·exact h c q
 ·exact hx
theorem a7 (b:List Int):∀c∈bD b,c.clean=true:=by
 intro c hc
 obtain ⟨n,_,rfl⟩:=List.mem_map.1 hc
 rfl
theorem cj (b:List Int):(bD b).map D.bg=bD b:=by
 simp only [bD,List.map_map]
 rfl
theorem cD (b:List Int):(bD b).all isByte=true:=by
 rw [List.all_eq_true]
 intro c hc
 obtain ⟨n,_,rfl⟩:=List.mem_map.1 hc
 rfl
theorem eu:∀b:List Int,cO (bD b)=some (bD b)
 | []=>rfl
 |a::b=>by
  have ih:=eu b
  unfold bD at ih ⊢
  rw [List.map_cons,cO,ih]
  rfl
theorem lI {n m:Nat} {c:D} {b:List D} (h:b.length=n) (hm:m=n):nM (Z7 m c) 0 b b:=by
 subst h
 subst hm
 refine ⟨by simp,by simp⟩
theorem A1 {l:List D} {n:Nat} (h:n=l.length):nN l 0 n l:=by
 subst h
 exact ⟨by simp,by simp⟩
theorem FC {l:List D} {i n:Nat} {l':List D} (h:nN l i n l'):nN l i n l':=h
theorem jk {n:Nat} :Nat.ble n (aal (n:Int))=true:=by rw [abt,Nat.ble_eq];exact Nat.le_refl _
theorem PL {id len:Nat} {y n:Int} (n0:1≤n) (n8:n≤8) (hl:len≤16384) (a1:abz.u64.wrap y≤len) (a2:n≤len - abz.u64.wrap y):
  D.aL [.sub id (0+aal (abz.u64.wrap y)*1) 1 (aal (abz.i64.wrap (abz.i64.wrap (abz.u64.wrap y)+n)) - aal (abz.u64.wrap y)) (some (aal (abz.i64.wrap (abz.i64.wrap (abz.u64.wrap y)+n)) - aal (abz.u64.wrap y))),ax true]=D.aL [.sub id (aal (abz.u64.wrap y)) 1 n.toNat (some n.toNat),ax true]:=by
 have h0:0≤abz.u64.wrap y:=by rw [bN];omega
 have e1:0+aal (abz.u64.wrap y)*1=aal (abz.u64.wrap y):=by omega
 have e2:aal (abz.i64.wrap (abz.i64.wrap (abz.u64.wrap y)+n)) - aal (abz.u64.wrap y)=n.toNat:=by
  generalize abz.u64.wrap y=z at*
  rw [aN,aN];omega
 rw [e1,e2]
def BD (v b:Int):Int:=abz.u64.wrap ((Z8 64 (abz.u64.wrap (v*256))|||Z8 64 (abz.u64.wrap b)).toNat:Int)
def Qf:List Int→Int
  | []=>0
  |b::t=>BD (Qf t) b
def F5 (cs:List D) (k:Nat) (w:Int):Nat→List D
  |0=>cs
  |n+1=>(F5 cs k w n).set (k+n*1) (.int .u8 (abz.u8.wrap (w.fdiv (256^n))))
theorem Ew (cs:List D) (k:Nat) (w:Int):∀n,(F5 cs k w n).length=cs.length
 |0=>rfl
 |n+1=>by rw [F5,aa1,Ew cs k w n]
theorem eZ:(∀ {α:Type} {a b:List α},(a++b).length=a.length+b.length)∧(∀ {α:Type} {x:α} {a:List α},(x::a).length=a.length+1)∧(∀ {α:Type},([]:List α).length=0)∧(∀ {α:Type} {a:List α} {i:Nat} {x:α},(a.set i x).length=a.length)∧(∀ {α:Type} {n:Nat} {x:α},(Z7 n x).length=n)∧(∀n:Int,abz.i8.wrap n=(n+128)%256 - 128)∧(∀n:Int,abz.u8.wrap n=n%256)∧(∀n:Int,abz.i64.wrap n=(n+9223372036854775808)%18446744073709551616 - 9223372036854775808)∧(∀n:Int,abz.u64.wrap n=n%18446744073709551616)∧(∀ {p:Prop} [Decidable p],(decide p=true)=p)∧(∀ {p:Prop} [Decidable p],(decide p=false)↔ ¬p)∧(∀ {α:Type} [BEq α] [LawfulBEq α] {a b:α},(a==b)=true↔a=b)∧(∀ {α:Type} [BEq α] [LawfulBEq α] {a b:α},(a !=b)=true↔a≠b)∧(∀ {α:Type} [BEq α] [LawfulBEq α] {a b:α},(a==b)=false↔a≠b)∧(∀ {α:Type} [BEq α] [LawfulBEq α] {a b:α},(a !=b)=false↔a=b)∧(∀b:Bool,((!b)=true)=(b=false))∧(∀b:Bool,((!b)=false)=(b=true))∧(∀a b:Bool,((a&&b)=true)=(a=true∧b=true))∧(∀a b:Bool,((a||b)=true)=(a=true∨b=true))∧(∀p:Prop,(p∧True)=p)∧(∀p:Prop,(True∧p)=p)∧(∀ {α:Type} (a:α),(a=a)=True):=
 ⟨aap,aaw,aaC,aa1,List.length_replicate,dk,bo,aN,bN,@bS,@cI,@cz,@ki,@fO,@bne_eq_false_iff_eq,by intro b;cases b<;>simp,by intro b;cases b<;>simp,by intro a b;simp,by intro a b;simp,by intro p;simp,by intro p;simp,by intro α a;simp⟩
def Ow (op ab ae aa:Int):Int:=
  if op=0 then lB ae
  else if op=1∨op=28∨op=29 then 0
  else if 20≤op∧op≤22 then GW (lB ab) (lB 1)
  else if op=24 then GW (GW (lB ab) (lB 0)) (lB 2)
  else if op=26 then lB aa
  else if op=27 then GW (lB aa) (lB ae)
  else if op=30 then 17
  else if op=31 then 1477
  else if aA op=1∨aA op=2∨aA op=6 then GW (lB ab) (lB ae)
  else lB ab
def qP (op ab:Int):Int:=
  if op=7∨op=8∨op=14∨op=15∨op=27∨op=28∨op=29 then 0
  else if op=24 then 5
  else if op=30 then 16
  else if op=31 then 2051
  else lB ab
def Rp (op w ab ae aa af aj cc:Int):Int:=if bC op w ab ae aa af aj cc then Ow op ab ae aa else 0
def kW (op w ab ae aa af aj cc:Int):Int:=if bC op w ab ae aa af aj cc then qP op ab else 0
def yL (w a b:Int):Bool:=decide (aI (u64 (a+b)) w<aI a w)
def yK (w a b:Int):Bool:=fG (qn (rJ a (u64 (a+b))) (rJ b (u64 (a+b)))) w
def rY (w a b:Int):Bool:=decide (aI a w<aI b w)
def rX (w a b:Int):Bool:=fG (qn (rJ a b) (rJ a (u64 (a - b)))) w
theorem wq (v:Int):abz.u64.wrap (abz.i64.wrap (abz.i8.wrap v))=abz.u64.wrap (abz.i8.wrap v):=by rw [bN,bN,aN,dk];omega
theorem wo (v:Int):abz.u64.wrap (abz.i64.wrap (abz.i16.wrap v))=abz.u64.wrap (abz.i16.wrap v):=by rw [bN,bN,aN,P5];omega
theorem wm (v:Int):abz.u64.wrap (abz.i64.wrap (abz.i32.wrap v))=abz.u64.wrap (abz.i32.wrap v):=by rw [bN,bN,aN,nF];omega
def ee (cc:Int) (c z s o:Bool):Bool:=
  if cc=2 then c else if cc=3 then !c else if cc=4 then z else if cc=5 then !z else if cc=6 then (c||z) else if cc=7 then !(c||z)
  else if cc=12 then (s !=o) else if cc=13 then !(s !=o) else if cc=14 then (z||(s !=o)) else !(z||(s !=o))
def Ma (op:Int):Bool:= !(decide (op=7∨op=8∨op=14∨op=15∨op=27∨op=28∨op=29))
theorem Ml {d:Int} (h0:0≤d) (h1:d≤15):lB d≠0:=by
 obtain ⟨n,rfl⟩:=iC h0 h1
 clear h0 h1
 revert n
 decide+kernel
theorem jd {op w ab ae aa af aj cc:Int} (hm:bC op w ab ae aa af aj cc=true) (d0:0≤ab) (d1:ab≤15) (Va:Ma op=true):(kW op w ab ae aa af aj cc==0)=false:=by
 rw [fO]
 unfold kW
 rw [if_pos hm]
 unfold qP
 simp only [Ma,aaK,cI] at Va
 rw [if_neg Va]
 split
 ·decide
 ·split
  ·decide
  ·split
   ·decide
   ·exact Ml d0 d1
theorem L9 {op w ab ae aa af aj cc:Int} (Va:Ma op=false):(kW op w ab ae aa af aj cc==0)=true:=by
 rw [cz]
 unfold kW qP
 simp only [Ma,aaU,bS] at Va
 rw [if_pos Va]
 split<;>rfl
theorem Rx (a:Int):a.fdiv 8=a / 8:=Int.fdiv_eq_ediv_of_nonneg _ (by decide)
def TT (n:Int):Prop:=0≤n∧n≤18446744073709551615
theorem lR (v w:Int):aI (aI v w) w=aI v w:=by
 unfold aI
 split
 ·omega
 ·split
  ·omega
  ·split
   ·omega
   ·rfl
def S8 (w k:Int):Int:=abz.i64.wrap ((Z8 64 (w.fdiv (2^(min k.toNat 64)))&&&Z8 64 1).toNat:Int)
def TA (w ab ae:Int):Bool:=bG w&&cg ab&&cg ae
theorem bz {sh w ab ae aa af aj cc:Int} (h:iy sh w ab ae aa af aj cc=true) (hs:sh=1∨sh=2∨sh=3∨sh=4∨sh=5∨sh=6):bG w=true:=by
 rcases hs with rfl|rfl|rfl|rfl|rfl|rfl<;>simp [iy] at h<;>first|exact h.1|exact h.1.1|exact h
theorem x7 {w ab ae aa af aj cc:Int} (h:iy 6 w ab ae aa af aj cc=true):kO cc=true:=by
 simp [iy] at h;exact h.2
theorem ri {w ab ae aa af aj cc:Int} (h:iy 10 w ab ae aa af aj cc=true):kO cc=true:=by
 simp [iy] at h;exact h.2
structure aq where
  (q0 q1 q2 q3 q4 q5 q6 q7 q8 q9 cZ dj dq dp dn di:Int)
  (fk fc fz fs fo:Bool)
  (pc:Int)
deriving DecidableEq
def aq.d (m:aq):D:= .agg [au m.q0,au m.q1,au m.q2,au m.q3,au m.q4,au m.q5,au m.q6,au m.q7,au m.q8,au m.q9,au m.cZ,au m.dj,au m.dq,au m.dp,au m.dn,au m.di,ax m.fk,ax m.fc,ax m.fz,ax m.fs,ax m.fo,au m.pc]
def aq.rl (m:aq):List Int:= [m.q0,m.q1,m.q2,m.q3,m.q4,m.q5,m.q6,m.q7,m.q8,m.q9,m.cZ,m.dj,m.dq,m.dp,m.dn,m.di]
def aq.put (m:aq) (i v:Int):aq:=⟨st 0 i v m.q0,st 1 i v m.q1,st 2 i v m.q2,st 3 i v m.q3,st 4 i v m.q4,st 5 i v m.q5,st 6 i v m.q6,st 7 i v m.q7,st 8 i v m.q8,st 9 i v m.q9,st 10 i v m.cZ,st 11 i v m.dj,st 12 i v m.dq,st 13 i v m.dp,st 14 i v m.dn,st 15 i v m.di,m.fk,m.fc,m.fz,m.fs,m.fo,m.pc⟩
def aq.flags (m:aq) (k c z s o:Bool):aq:=⟨m.q0,m.q1,m.q2,m.q3,m.q4,m.q5,m.q6,m.q7,m.q8,m.q9,m.cZ,m.dj,m.dq,m.dp,m.dn,m.di,k,c,z,s,o,m.pc⟩
def aq.at (m:aq) (v:Int):aq:=⟨m.q0,m.q1,m.q2,m.q3,m.q4,m.q5,m.q6,m.q7,m.q8,m.q9,m.cZ,m.dj,m.dq,m.dp,m.dn,m.di,m.fk,m.fc,m.fz,m.fs,m.fo,v⟩
def aq.zero:aq:=⟨0,0,0,0,0,0,0,0,0,0,0,0,0,0,0,0,false,false,false,false,false,0⟩
def XS.len (x:XS):Int:=ck x.op x.w x.ab x.ae x.aa x.af x.aj x.cc
def XS.may (x:XS):Bool:=bC x.op x.w x.ab x.ae x.aa x.af x.aj x.cc
def RC (op:Int):Option (Int×Int):=
  match op with
  |2=>some (0,0)
  |3=>some (4,0)
  |4=>some (5,0)
  |5=>some (1,0)
  |6=>some (10,0)
  |7=>some (1,0)
  |8=>some (5,0)
  |9=>some (0,1)
  |10=>some (4,1)
  |11=>some (5,1)
  |12=>some (1,1)
  |13=>some (10,1)
  |14=>some (1,1)
  |15=>some (5,1)
  |16=>some (2,0)
  |17=>some (6,1)
  |18=>some (7,1)
  |19=>some (12,1)
  |20=>some (6,2)
  |21=>some (7,2)
  |22=>some (12,2)
  |23=>some (8,0)
  |_=>none
def RI (m:aq) (x:XS) (k:Int):Int:=match k with
  |2=>m.q1
  |1=>u64 x.aj
  |_=>rg m.rl x.ae
def FE (m:aq) (s w a b v:Int):aq:=match s with
  |0=>m.flags true (yL w a b) (aI (u64 (a+b)) w==0) (fG (u64 (a+b)) w) (yK w a b)
  |1=>m.flags true (rY w a b) (aI (u64 (a - b)) w==0) (fG (u64 (a - b)) w) (rX w a b)
  |8=>m.flags true (rY w 0 a) (aI (u64 (0 - a)) w==0) (fG (u64 (0 - a)) w) (rX w 0 a)
  |4=>m.flags true false (aI v w==0) (fG v w) false
  |5=>m.flags true false (aI v w==0) (fG v w) false
  |10=>m.flags true false (aI v w==0) (fG v w) false
  |_=>m.flags false false false false false
def Pr (op:Int):Bool:=match op with
  |7=>true
  |8=>true
  |14=>true
  |15=>true
  |_=>false
def gu (m:aq) (x:XS) (ld:Int):aq×Int:=match RC x.op with
  |some (s,k)=>
    let a:=rg m.rl x.ab
    let b:=RI m x k
    let v:=ft s x.w a b
    match Pr x.op with
    |true=>(FE m s x.w a b v,0)
    |false=>((FE m s x.w a b v).put x.ab v,0)
  |none=>match x.op with
    |0=>(m.put x.ab (aI (rg m.rl x.ae) x.w),0)
    |1=>(m.put x.ab (aI (u64 x.aj) x.w),0)
    |24=>match aI (rg m.rl x.ab) x.w==0 with
      |true=>(.zero,20)
      |false=>match aI m.q2 x.w==0 with
        |false=>(.zero,20)
        |true=>(({ m with q0:=u64 ((aI m.q0 x.w).tdiv (aI (rg m.rl x.ab) x.w)),q2:=(aI m.q0 x.w).tmod (aI (rg m.rl x.ab) x.w) }).flags false false false false false,0)
    |25=>match m.fk with
      |false=>(.zero,20)
      |true=>(m.put x.ab (aI (if ee x.cc m.fc m.fz m.fs m.fo then rg m.rl x.ae else rg m.rl x.ab) x.w),0)
    |26=>(m.put x.ab (aI ld x.w),0)
    |28=>(m.at (u64 (m.pc+u64 x.aj)),0)
    |29=>match m.fk with
      |false=>(.zero,20)
      |true=>(m.at (if ee x.cc m.fc m.fz m.fs m.fo then u64 (m.pc+u64 x.aj) else m.pc),0)
    |30=>(({ m with q4:=u64 (m.q4+8) }).at ld,0)
    |31=>({ m with q0:=ld,q1:=0,dj:=0 },0)
    |_=>(m,0)
def fg (m:aq) (x:XS) (ld:Int):aq×Int:=match x.may with
  |false=>(.zero,2)
  |true=>gu (m.at (u64 (m.pc+u64 x.len))) x ld
def SW (m:aq) (x:XS) (ld:Int):aq:=(fg m x ld).1
def SX (m:aq) (x:XS) (ld:Int):Int:=(fg m x ld).2
theorem Bg {m:aq} {x:XS} {ld:Int} (h:x.may=false):fg m x ld=(.zero,2):=by unfold fg;rw [h]
theorem qh {m:aq} {x:XS} {ld:Int} (h:x.may=true):fg m x ld=gu (m.at (u64 (m.pc+u64 x.len))) x ld:=by unfold fg;rw [h]
def de (m:aq) (op w ab ae aa af aj cc:Int):Int:=u64 (m.pc+u64 (ck op w ab ae aa af aj cc))
def xT (op w ab ae aa af aj cc ld:Int):List D:= [ao op,ao w,ao ab,ao ae,ao aa,av af,av aj,ao cc,au ld]
def fT (m:aq) (p:Int) (tl:List D):List D:= .bool m.fk::ax m.fc::ax m.fz::ax m.fs::ax m.fo::au p::tl
def zC:List D:= [au 0,au 0,au 0,au 0,au 0,au 0,au 0,au 0,au 0,au 0,au 0,au 0,au 0,au 0,au 0,au 0,ax false,ax false,ax false,ax false,ax false,au 0]
def aq.cw (m:aq) (p:Int) (tl:List D):List D:= .int .u64 m.q0::au m.q1::au m.q2::au m.q3::au m.q4::au m.q5::au m.q6::au m.q7::au m.q8::au m.q9::au m.cZ::au m.dj::au m.dq::au m.dp::au m.dn::au m.di::ax m.fk::ax m.fc::ax m.fz::ax m.fs::ax m.fo::au p::tl
theorem bj (m:aq) (i:Int) (tl:List D) (h0:0≤i) (h1:i≤15):(D.int .u64 m.q0::D.int .u64 m.q1::D.int .u64 m.q2::D.int .u64 m.q3::D.int .u64 m.q4::D.int .u64 m.q5::D.int .u64 m.q6::D.int .u64 m.q7::D.int .u64 m.q8::D.int .u64 m.q9::D.int .u64 m.cZ::D.int .u64 m.dj::D.int .u64 m.dq::D.int .u64 m.dp::D.int .u64 m.dn::D.int .u64 m.di::tl:List D)[0+i.toNat*1]? =some (au (rg m.rl i)):=iX h0 h1
theorem bO (m:aq) (i v:Int) (tl:List D) (h0:0≤i) (h1:i≤15):nM (D.int .u64 m.q0::D.int .u64 m.q1::D.int .u64 m.q2::D.int .u64 m.q3::D.int .u64 m.q4::D.int .u64 m.q5::D.int .u64 m.q6::D.int .u64 m.q7::D.int .u64 m.q8::D.int .u64 m.q9::D.int .u64 m.cZ::D.int .u64 m.dj::D.int .u64 m.dq::D.int .u64 m.dp::D.int .u64 m.dn::D.int .u64 m.di::tl:List D) (0+i.toNat*1) [D.int .u64 v] (D.int .u64 (m.put i v).q0::D.int .u64 (m.put i v).q1::D.int .u64 (m.put i v).q2::D.int .u64 (m.put i v).q3::D.int .u64 (m.put i v).q4::D.int .u64 (m.put i v).q5::D.int .u64 (m.put i v).q6::D.int .u64 (m.put i v).q7::D.int .u64 (m.put i v).q8::D.int .u64 (m.put i v).q9::D.int .u64 (m.put i v).cZ::D.int .u64 (m.put i v).dj::D.int .u64 (m.put i v).dq::D.int .u64 (m.put i v).dp::D.int .u64 (m.put i v).dn::D.int .u64 (m.put i v).di::tl):=oU h0 h1
def Tb (m:aq) (x:XS):Int×Int×Bool:=
  if x.may=true∧(x.op=26∨x.op=27) then (u64 (rg m.rl x.aa+u64 x.af),x.w / 8,true)
  else if x.may=true∧x.op=30 then (m.q4,8,true)
  else (0,0,false)
def Ri (m:aq) (x:XS):Int:=if x.may=true∧x.op=27 then aI (rg m.rl x.ae) x.w else 0
def Ty (m:aq):Int×Bool:=if 16≤m.q0 then (0,false) else (abz.i64.wrap m.q0,true)
def ko (q:Int):Int:=if 16≤q then 0 else abz.i64.wrap q
def qO (q:Int):Bool:= !decide (16≤q)
theorem O8 {q:Int} (h:16≤q):qO q=false:=by unfold qO;simp;omega
theorem xW {q:Int} (h:decide (q<16)=true):wk (.aL [av (abz.i64.wrap q),ax true]) (.aL [av (ko q),ax (qO q)]):=by
 rw [bS] at h
 have e:ko q=abz.i64.wrap q:=by unfold ko;rw [if_neg (by omega)]
 have f:qO q=true:=by unfold qO;simp;omega
 rw [e,f];simp [wk,bf]
theorem xX {q:Int} (h:decide (q<16)=false):wk (.aL [av 0,ax false]) (.aL [av (ko q),ax (qO q)]):=by
 rw [cI] at h
 have e:ko q=0:=by unfold ko;rw [if_pos (by omega)]
 have f:qO q=false:=O8 (by omega)
 rw [e,f];simp [wk,bf]
def S9 (m:aq):List Int:=if 16≤m.q0 then [] else [m.q7,m.q6,m.q2,m.cZ,m.q8].take (m.q0.toNat%6)
def wD (l:List Int):List D:=l.map (fun x=> .int .u64 x)
def Sv (cc:Int):Int×Bool:=
  if cc=0 then (4,true) else if cc=1 then (5,true) else if cc=2 then (7,true) else if cc=3 then (3,true) else if cc=4 then (2,true) else if cc=5 then (6,true)
  else if cc=6 then (15,true) else if cc=7 then (13,true) else if cc=8 then (12,true) else if cc=9 then (14,true) else if cc=10 then (5,true) else (0,false)
def TK (cc:Int):Int×Bool:=
  if cc=4 then (0,true) else if cc=5 then (1,true) else if cc=7 then (2,true) else if cc=3 then (3,true) else if cc=2 then (4,true) else if cc=6 then (5,true)
  else if cc=15 then (6,true) else if cc=13 then (7,true) else if cc=12 then (8,true) else if cc=14 then (9,true) else (0,false)
theorem aX:type_of%(aaj @bC.eq_1 (aaj @cg.eq_1 (aaj @iy.eq_1 (aaj @bG.eq_1 (aaj @fS.eq_1 (aaj @mb.eq_1 (@kO.eq_1))))))):=aaj @bC.eq_1 (aaj @cg.eq_1 (aaj @iy.eq_1 (aaj @bG.eq_1 (aaj @fS.eq_1 (aaj @mb.eq_1 (@kO.eq_1))))))
def me (x:XS):D:=xD x.op x.w x.ab x.ae x.aa x.af x.aj x.cc
def nK (x:XS):Bool:=bC x.op x.w x.ab x.ae x.aa x.af x.aj x.cc
def cR (x:XS):List Int:=aD x.op x.w x.ab x.ae x.aa x.af x.aj x.cc
theorem kr:∀n:Fin 32,1≤aA (n.val:Int)∧aA (n.val:Int)≤11:=by decide+kernel
theorem BS {k:Int} (k0:0≤k) (k1:k≤31):aA k=1∨aA k=2∨aA k=3∨aA k=4∨aA k=5∨aA k=6∨aA k=7∨aA k=8∨aA k=9∨aA k=10∨aA k=11:=by
 have:=kr ⟨k.toNat,by omega⟩
 have e:((⟨k.toNat,by omega⟩:Fin 32).val:Int)=k:=by simp;omega
 rw [e] at this
 omega
theorem P2 {k:Int} (k0:0≤k) (k1:k≤31):abz.i8.wrap k=k:=by rw [dk];omega
theorem GS {b:List Int} (hb:dr b) {s:aJ} (h:mh b=some s):0≤s.code∧s.code≤255∧(s.high=0∨s.high=8):=by
 have code:∀ {w R M:Int} {u:List Int},dr u→(M=0∨M=8)→hP w R M u=some s→0≤s.code∧s.code≤255∧(s.high=0∨s.high=8):=by
  intro w R M u hu hM h
  match u,hu with
  | [],_=>cases h
  |c::v,hu=>
   obtain ⟨⟨c0,c1⟩,hv⟩:=fH.1 hu
   by_cases hc:c=15
   ·subst hc
    match v,hv,h with
    | [],_,h=>rw [show hP w R M [15]=some (dz w R M false 15 []) from rfl] at h;cases h;exact ⟨by simp [dz],by simp [dz],hM⟩
    |d::z,hv,h=>rw [iK] at h;cases h;exact ⟨(hv d (by simp)).1,(hv d (by simp)).2,hM⟩
   ·rw [eo hc] at h;cases h;exact ⟨c0,c1,hM⟩
 have Cp:∀ {w:Int} {u:List Int},dr u→gX w u=some s→0≤s.code∧s.code≤255∧(s.high=0∨s.high=8):=by
  intro w u hu h
  match u,hu with
  | [],_=>cases h
  |c::v,hu=>
   by_cases hq:mg c=true
   ·simp only [gX,if_pos hq] at h
    exact code (fH.1 hu).2 (by omega) h
   ·simp only [gX,if_neg hq] at h
    exact code hu (.inl rfl) h
 unfold mh at h
 split at h
 ·exact Cp (fun x hx=>hb x (List.mem_of_mem_drop hx)) h
 ·exact Cp hb h
def iZ (b:List Int) (x:XS):Bool:=nK x&&(cR x).isPrefixOf b
def gd (b:List Int) (s:aJ):List Int→Option XS
  | []=>none
  |k::r=>if iZ b (fK s k) then some (fK s k) else gd b s r
def im (b:List Int):Option XS:=if iZ b (ju b) then some (ju b) else none
theorem ny {b:List Int} {x:XS} (h:iZ b x=true):ju b=x∧∃s,mh b=some s∧fK s x.op=x:=by
 unfold iZ at h
 rw [aae,abo] at h
 obtain ⟨hm,t,rfl⟩:=h
 exact ⟨Bn hm t,Kl hm t⟩
theorem tj {b:List Int} {s:aJ} {x:XS} :∀ {l:List Int},gd b s l=some x→iZ b x=true
 | [],h=>by cases h
 |k::r,h=>by
  unfold gd at h
  split at h
  ·rename_i hf;cases h;exact hf
  ·exact tj h
theorem tk {b:List Int} {s:aJ} :∀ {l:List Int},gd b s l=none→∀k∈l,iZ b (fK s k)=false
 | [],_,k,hk=>by cases hk
 |a::r,h,k,hk=>by
  unfold gd at h
  split at h
  ·cases h
  ·rename_i hf
   rcases abj.1 hk with rfl|hk
   ·simpa using hf
   ·exact tk h k hk
theorem KJ {x:XS} (h:nK x=true):x.op∈hQ:=by
 have hs:=(dw h).2
 have VO:aA x.op≠0:=by intro e;rw [e] at hs;simp [iy] at hs
 have:=gQ VO
 unfold hQ
 simp only [abj,List.not_mem_nil,or_false]
 exact this
theorem Dg {b:List Int} {s:aJ} (hs:mh b=some s):gd b s hQ=im b:=by
 unfold im
 cases h:gd b s hQ with
 |some x=>
  have hf:=tj h
  rw [(ny hf).1,if_pos hf]
 |none=>
  split
  ·rename_i hf
   obtain ⟨_,s',hs',ha⟩:=ny hf
   rw [hs] at hs'
   obtain rfl:=Option.some.inj hs'
   have Va:=KJ (by unfold iZ at hf;rw [aae] at hf;exact hf.1)
   have:=tk h _ Va
   rw [ha,hf] at this
   cases this
  ·rfl
theorem GH {b:List Int} (hs:mh b=none):im b=none:=by
 unfold im
 split
 ·rename_i hf
  obtain ⟨_,s',hs',_⟩:=ny hf
  rw [hs] at hs'
  cases hs'
 ·rfl
theorem Em (l:List Int):(bD l).all isByte=true:=by simp [bD,isByte]
theorem jU (l:List Int) (n:Nat):((bD l).take n).all isByte=true:=by
 rw [show (bD l).take n=bD (l.take n) by simp [bD,List.map_take]]
 exact Em _
def jA:List D:= [ao 1,aC 137,ao 0,ao 3,aC 199,ao 0,ao 1,aC 1,ao 0,ao 1,aC 9,ao 0,ao 1,aC 33,ao 0,ao 1,aC 41,ao 0,ao 1,aC 49,ao 0,ao 1,aC 57,ao 0,ao 1,aC 133,ao 0,ao 3,aC 129,ao 0,ao 3,aC 129,ao 1,ao 3,aC 129,ao 4,ao 3,aC 129,ao 5,ao 3,aC 129,ao 6,ao 3,aC 129,ao 7,ao 3,aC 247,ao 0,ao 2,aC 175,ao 0,ao 4,aC 193,ao 4,ao 4,aC 193,ao 5,ao 4,aC 193,ao 7,ao 5,aC 211,ao 4,ao 5,aC 211,ao 5,ao 5,aC 211,ao 7,ao 5,aC 247,ao 3,ao 5,aC 247,ao 6,ao 6,aC 64,ao 0,ao 7,aC 139,ao 0,ao 8,aC 137,ao 0,ao 9,aC 233,ao 0,ao 10,aC 128,ao 0,ao 11,aC 195,ao 0,ao 11,aC 5,ao 0]
theorem HR (n:Nat) (hn:n<32):(jA.drop (n*3)).take 3= [D.int .i8 (aA (n:Int)),D.int .u8 (ba (n:Int)),D.int .i8 (bI (n:Int))]:=by
 have:n=0∨n=1∨n=2∨n=3∨n=4∨n=5∨n=6∨n=7∨n=8∨n=9∨n=10∨n=11∨n=12∨n=13∨n=14∨n=15∨n=16∨n=17∨n=18∨n=19∨n=20∨n=21∨n=22∨n=23∨n=24∨n=25∨n=26∨n=27∨n=28∨n=29∨n=30∨n=31:=by omega
 rcases this with rfl|rfl|rfl|rfl|rfl|rfl|rfl|rfl|rfl|rfl|rfl|rfl|rfl|rfl|rfl|rfl|rfl|rfl|rfl|rfl|rfl|rfl|rfl|rfl|rfl|rfl|rfl|rfl|rfl|rfl|rfl|rfl<;>rfl
theorem pn {k:Int} (k0:0≤k) (k1:k≤31):nN jA (k.toNat*3) 3 [D.int .i8 (aA k),D.int .u8 (ba k),D.int .i8 (bI k)]:=by
 have h:=HR k.toNat (by omega)
 have e:(k.toNat:Int)=k:=by omega
 rw [e] at h
 refine ⟨h,?_⟩
 have hl:jA.length=96:=rfl
 rw [hl]
 omega
theorem LV {l:List Int} (h:kT l):dr l:=by
 intro x hx
 exact h x hx
theorem qI {x:XS} (h:nK x=true):dr (cR x):=LV (yD h)
theorem Nc {own b:List Int} (ho:dr own) (hb:dr b):(own.isPrefixOf b=true↔((bD own).length:Int)≤((bD b).length:Int)∧((gC (bD own)).toList==(gC (List.take (aal ((aaa (bD own):Nat):Int)) (bD b))).toList)=true):=by
 rw [abo,List.prefix_iff_eq_take,aQ,aQ,abt,show (bD b).take own.length=bD (b.take own.length) by simp [bD,List.map_take],cz]
 constructor
 ·intro h
  refine ⟨?_,by rw [← h]⟩
  have:=congrArg aaa h
  rw [List.length_take] at this
  omega
 ·rintro ⟨_,h2⟩
  exact LL ho (fun x hx=>hb x (List.mem_of_mem_take hx)) h2
theorem AH {n:Nat} (hn:n<32):hQ.drop n=(n:Int)::hQ.drop (n+1):=by
 have:n=0∨n=1∨n=2∨n=3∨n=4∨n=5∨n=6∨n=7∨n=8∨n=9∨n=10∨n=11∨n=12∨n=13∨n=14∨n=15∨n=16∨n=17∨n=18∨n=19∨n=20∨n=21∨n=22∨n=23∨n=24∨n=25∨n=26∨n=27∨n=28∨n=29∨n=30∨n=31:=by omega
 rcases this with rfl|rfl|rfl|rfl|rfl|rfl|rfl|rfl|rfl|rfl|rfl|rfl|rfl|rfl|rfl|rfl|rfl|rfl|rfl|rfl|rfl|rfl|rfl|rfl|rfl|rfl|rfl|rfl|rfl|rfl|rfl|rfl<;>rfl
theorem PM (s:aJ) (k:Int):(fK s k).op=k:=by
 simp only [fK,mR,apply_ite XS.op,ite_self]
def ES:Option XS→D
  |none=> .aL [xD 0 0 0 0 0 0 0 0,.int .i64 0,.int .i64 30]
  |some x=> .aL [me x,.int .i64 (cR x).length,.int .i64 0]
structure Et where
  num:Int
  args:List Int
  Ta:Int
def Et.d (e:Et):D:= .agg [av e.num,aZ 1 (wD e.args),au e.Ta]
def fe (l:List Et):List D:=l.map Et.d
structure kp where
  m:aq
  cx:List Int
  fr:List Int
  st:List Int
  an:List Int
  tr:List Et
  en:Int
def iP (aa:Int) (len:Nat) (a n:Int):Bool:=decide (aa≤a∧abz.u64.wrap (a - aa)≤(len:Int)∧n≤(len:Int) - abz.u64.wrap (a - aa))
def mi (aa a:Int):Nat:=(abz.u64.wrap (a - aa)).toNat
theorem N1 {aa a n:Int} {len:Nat} (h:iP aa len a n=true):aa≤a∧abz.u64.wrap (a - aa)≤(len:Int)∧n≤(len:Int) - abz.u64.wrap (a - aa):=of_decide_eq_true h
theorem QK {aa a n:Int} {len:Nat} (h:iP aa len a n=false):a<aa∨(len:Int)<abz.u64.wrap (a - aa)∨(len:Int) - abz.u64.wrap (a - aa)<n:=by
 have:=of_decide_eq_false h
 omega
theorem of_le {aa a n:Int} {len:Nat} (h:iP aa len a n=true) (hn:0≤n):mi aa a+n.toNat≤len:=by
 have:=N1 h
 have h0:0≤abz.u64.wrap (a - aa):=by rw [bN];omega
 unfold mi
 omega
def L0 (l:List Int) (k n:Nat):Int:=Qf ((l.drop k).take n)
def F6 (l:List Int) (k:Nat) (w:Int):Nat→List Int
  |0=>l
  |n+1=>(F6 l k w n).set (k+n*1) (abz.u8.wrap (w.fdiv (256^n)))
theorem oq (l:List Int) (k:Nat) (w:Int):∀n,(F6 l k w n).length=l.length
 |0=>rfl
 |n+1=>by rw [F6,aa1,oq l k w n]
theorem we (l:List Int) (k:Nat) (w:Int):∀n,F5 (bD l) k w n=bD (F6 l k w n)
 |0=>rfl
 |n+1=>by
  rw [F5,we l k w n,F6]
  simp [bD,List.map_set]
theorem FT {l:List Int} {k:Nat} (j:Nat) (h:k+j<l.length):(bD l)[k+j*1]? =some (aC (l.getD (k+j) 0)):=by
 rw [Nat.mul_one]
 simp [bD,h,aaf]
theorem oz:∀(n k:Nat) (l:List Int),k+n≤l.length→(l.drop k).take n=(List.range n).map fun j=>l.getD (k+j) 0
 |0,k,l,_=>by simp
 |n+1,k,l,h=>by
  rw [List.range_succ,List.map_append,← oz n k l (by omega),List.take_add_one]
  have:(l.drop k)[n]? =some (l.getD (k+n) 0):=by
   rw [List.getElem?_drop,aaf,List.getElem?_eq_getElem (by omega)]
   rfl
  rw [this]
  rfl
def jE (cb cx fr st:List Int) (a n:Int):Option Int:=
  if iP 1048576 cb.length a n=true then some (L0 cb (mi 1048576 a) n.toNat)
  else if iP 2097152 cx.length a n=true then some (L0 cx (mi 2097152 a) n.toNat)
  else if iP 3145728 64 a n=true then some (L0 fr (mi 3145728 a) n.toNat)
  else if iP 4194304 264 a n=true then some (L0 st (mi 4194304 a) n.toNat)
  else none
def ir (cx fr st:List Int) (a n w:Int):Option (List Int×List Int×List Int):=
  if iP 2097152 cx.length a n=true then some (F6 cx (mi 2097152 a) w n.toNat,fr,st)
  else if iP 3145728 64 a n=true then some (cx,F6 fr (mi 3145728 a) w n.toNat,st)
  else if iP 4194304 264 a n=true then some (cx,fr,F6 st (mi 4194304 a) w n.toNat)
  else none
theorem BO {cx fr st:List Int} {a n w:Int} {r:List Int×List Int×List Int} (h:ir cx fr st a n w=some r):r.1.length=cx.length∧r.2.1.length=fr.length∧r.2.2.length=st.length:=by
 unfold ir at h
 split at h
 ·cases h;exact ⟨oq _ _ _ _,rfl,rfl⟩
 split at h
 ·cases h;exact ⟨rfl,oq _ _ _ _,rfl⟩
 split at h
 ·cases h;exact ⟨rfl,rfl,oq _ _ _ _⟩
 ·cases h
def mT (v:Int):Nat:=if 0≤v∧v≤15 then v.toNat%6 else 0
theorem FV (v:Int):mT v≤5:=by unfold mT;split<;>omega
def mS (m:aq) (n:Nat):List Int:= [m.q7,m.q6,m.q2,m.cZ,m.q8].take n
def bu (cb:List Int) (e:kp):kp×Bool:=
  if iP 1048576 cb.length e.m.pc 1=true then
    match im (cb.drop (mi 1048576 e.m.pc)) with
    |none=>({ e with en:=3 },false)
    |some x=>
      if x.op=31 then
        if qO e.m.q0=true then
          match e.an with
          | []=>({ e with en:=2 },false)
          |a::r=>({ e with m:=(fg e.m x a).1,an:=r,tr:=e.tr++ [⟨ko e.m.q0,mS e.m (mT (ko e.m.q0)),a⟩],en:=0 },true)
        else ({ e with en:=3 },false)
      else if x.op=27 then
        match ir e.cx e.fr e.st (u64 (rg e.m.rl x.aa+u64 x.af)) (x.w / 8) (aI (rg e.m.rl x.ae) x.w) with
        |none=>({ e with en:=3 },false)
        |some r=>({ e with m:=(fg e.m x 0).1,cx:=r.1,fr:=r.2.1,st:=r.2.2,en:=0 },true)
      else if x.op=26 then
        match jE cb e.cx e.fr e.st (u64 (rg e.m.rl x.aa+u64 x.af)) (x.w / 8) with
        |none=>({ e with en:=3 },false)
        |some v=>({ e with m:=(fg e.m x v).1,en:=0 },true)
      else if x.op=30 then
        match jE cb e.cx e.fr e.st e.m.q4 8 with
        |none=>({ e with en:=3 },false)
        |some v=>if v=0 then ({ e with m:=(fg e.m x v).1,en:=1 },false) else ({ e with m:=(fg e.m x v).1,en:=0 },true)
      else if (fg e.m x 0).2=0 then ({ e with m:=(fg e.m x 0).1,en:=0 },true)
      else ({ e with en:=3 },false)
  else ({ e with en:=3 },false)
structure Rg (e e2:kp):Prop where
  cx:e2.cx.length=e.cx.length
  fr:e2.fr.length=e.fr.length
  st:e2.st.length=e.st.length
  tr:∃t,e2.tr=e.tr++t∧t.length≤1
theorem qQ (cb:List Int) (e:kp):Rg e (bu cb e).1:=by
 have z:∀e2:kp,e2.cx=e.cx→e2.fr=e.fr→e2.st=e.st→e2.tr=e.tr→Rg e e2:=fun e2 h1 h2 h3 h4=>⟨by rw [h1],by rw [h2],by rw [h3],[],by rw [h4,aba],by simp⟩
 unfold bu
 split
 ·split
  ·exact z _ rfl rfl rfl rfl
  ·split
   ·split
    ·split
     ·exact z _ rfl rfl rfl rfl
     ·exact ⟨rfl,rfl,rfl,_,rfl,Nat.le_refl _⟩
    ·exact z _ rfl rfl rfl rfl
   ·split
    ·split
     ·exact z _ rfl rfl rfl rfl
     ·rename_i r hr
      obtain ⟨h1,h2,h3⟩:=BO hr
      exact ⟨h1,h2,h3,[],by rw [aba],by simp⟩
    ·split
     ·split<;>exact z _ rfl rfl rfl rfl
     ·split
      ·split
       ·exact z _ rfl rfl rfl rfl
       ·split<;>exact z _ rfl rfl rfl rfl
      ·split<;>exact z _ rfl rfl rfl rfl
 ·exact z _ rfl rfl rfl rfl
theorem wj (cb:List Int) (e:kp):((bu cb e).2=true→(bu cb e).1.en=0)∧((bu cb e).2=false→(bu cb e).1.en≠0):=by
 unfold bu
 repeat' split
 all_goals (constructor<;>intro h<;>first|rfl|(cases h;done)|decide|(show (3:Int)≠0;decide)|(show (2:Int)≠0;decide)|(show (1:Int)≠0;decide))
def iA (cb:List Int):Nat→kp→kp×Nat
  |0,e=>(e,0)
  |f+1,e=>match bu cb e with
    |(e2,true)=>iA cb f e2
    |(e2,false)=>(e2,f)
theorem oI (cb:List Int):∀(f:Nat) (e:kp),(iA cb f e).1.cx.length=e.cx.length∧(iA cb f e).1.tr.length≤e.tr.length+f
 |0,e=>⟨rfl,Nat.le_refl _⟩
 |f+1,e=>by
  have ho:=qQ cb e
  obtain ⟨t,ht,hl⟩:=ho.tr
  rw [iA]
  cases hs:bu cb e with
  |mk e2 b=>
   rw [hs] at ho ht
   cases b with
   |true=>
    obtain ⟨h1,h2⟩:=oI cb f e2
    refine ⟨h1.trans ho.cx,?_⟩
    have:e2.tr.length≤e.tr.length+1:=by rw [ht,aap];omega
    simp only [];omega
   |false=>
    refine ⟨ho.cx,?_⟩
    have:e2.tr.length≤e.tr.length+1:=by rw [ht,aap];omega
    simp only [];omega
end Go.Ev
namespace Go.Proofs.YtbfpahigdpigpaaGreat
open Go Go.Ev
theorem mixed:Tryz.prog.follows .mixedOrders=true:=by kernel_rfl
theorem cW:kl Z9 53 [.int .i8,.int .i8,.int .i8,.int .i8,.int .i8,.int .i64,.int .i64,.int .i8]:=kl.of_flat (d:=5) (by kernel_rfl) (by kernel_rfl) (by kernel_rfl) (by kernel_rfl)
theorem dY:kl Z9 46 [.bool,.bool,.bool,.bool,.bool]:=kl.of_flat (d:=5) (by kernel_rfl) (by kernel_rfl) (by kernel_rfl) (by kernel_rfl)
theorem pt:kl Z9 48 [.int .u64,.int .u64,.int .u64,.int .u64,.int .u64,.int .u64,.int .u64,.int .u64,.int .u64,.int .u64,.int .u64,.int .u64,.int .u64,.int .u64,.int .u64,.int .u64,.bool,.bool,.bool,.bool,.bool,.int .u64]:=kl.of_flat (d:=5) (by kernel_rfl) (by kernel_rfl) (by kernel_rfl) (by kernel_rfl)
abbrev vg (nc nx:Nat):List D:= [au 1048576,.dm 4 1 nc,ax false,au 2097152,.dm 7 1 nx,ax true,au 3145728,.dm 8 1 64,ax true,au 4194304,.dm 9 1 264,ax true]
abbrev L4 (o0:Ob) (nc nx:Nat) (cc cx fr st:List D):List Ob:= [o0,ay (vg nc nx),aF,aF,ay cc,aF,aF,ay cx,ay fr,ay st]
abbrev EL:=List (Ev Z9)
theorem cf (b:Bool):b=true∨b=false:=Bool.eq_false_or_eq_true b
theorem ct:(∀ {p:Prop} [Decidable p],(decide p=true)=p)∧(∀ {p:Prop} [Decidable p],(decide p=false)↔ ¬p)∧(∀(b:Bool),(¬(b=true))=(b=false))∧(∀ {α:Type} [BEq α] [LawfulBEq α] {a b:α},(a==b)=true↔a=b)∧(∀ {α:Type} [BEq α] [LawfulBEq α] {a b:α},(a==b)=false↔a≠b)∧(∀(a b:Bool),(ax a=D.bool b)=(a=b)):=⟨@bS,@cI,@Bool.not_eq_true,@cz,@fO,@D.bool.injEq⟩
theorem cH:(∀n:Int,abz.i8.wrap n=(n+128)%256 - 128)∧(∀n:Int,abz.u8.wrap n=n%256)∧(∀n:Int,abz.i64.wrap n=(n+9223372036854775808)%18446744073709551616 - 9223372036854775808)∧(∀n:Int,abz.u64.wrap n=n%18446744073709551616)∧(∀ {p:Prop} [Decidable p],(decide p=true)=p)∧(∀ {p:Prop} [Decidable p],(decide p=false)↔ ¬p)∧(∀ {α:Type} [BEq α] [LawfulBEq α] {a b:α},(a==b)=true↔a=b)∧(∀ {α:Type} [BEq α] [LawfulBEq α] {a b:α},(a !=b)=true↔a≠b)∧(∀ {α:Type} [BEq α] [LawfulBEq α] {a b:α},(a==b)=false↔a≠b)∧(∀ {α:Type} [BEq α] [LawfulBEq α] {a b:α},(a !=b)=false↔a=b)∧(∀(b:Bool),((!b)=true)=(b=false))∧(∀(b:Bool),((!b)=false)=(b=true))∧(∀(a b:Bool),((a&&b)=true)=(a=true∧b=true))∧(∀(a b:Bool),((a||b)=true)=(a=true∨b=true)):=⟨@dk,@bo,@aN,@bN,@bS,@cI,@cz,@ki,@fO,@bne_eq_false_iff_eq,@aaK,@aaU,@aae,@Bool.or_eq_true⟩
def OE (n:Nat) (f:Func):Prop:= ∀ {x:List D} {d:D} (o:EL),(h:ym Z9 f x o=some (d,sj o True):=by kernel_rfl)→aP Z9 n x d
theorem o0:OE 0 Tryz.f0:=fun o h=>aP.ai mixed Tryz.func0 (by kernel_rfl) o h
theorem o1:OE 1 Tryz.f1:=fun o h=>aP.ai mixed Tryz.func1 (by kernel_rfl) o h
theorem o2:OE 2 Tryz.f2:=fun o h=>aP.ai mixed Tryz.func2 (by kernel_rfl) o h
theorem o3:OE 3 Tryz.f3:=fun o h=>aP.ai mixed Tryz.func3 (by kernel_rfl) o h
theorem o4:OE 4 Tryz.f4:=fun o h=>aP.ai mixed Tryz.func4 (by kernel_rfl) o h
theorem o5:OE 5 Tryz.f5:=fun o h=>aP.ai mixed Tryz.func5 (by kernel_rfl) o h
theorem o8:OE 8 Tryz.f8:=fun o h=>aP.ai mixed Tryz.func8 (by kernel_rfl) o h
theorem o9:OE 9 Tryz.f9:=fun o h=>aP.ai mixed Tryz.func9 (by kernel_rfl) o h
theorem NW:OE 11 Tryz.f11:=fun o h=>aP.ai mixed Tryz.func11 (by kernel_rfl) o h
theorem fA:OE 12 Tryz.f12:=fun o h=>aP.ai mixed Tryz.func12 (by kernel_rfl) o h
theorem fx:OE 13 Tryz.f13:=fun o h=>aP.ai mixed Tryz.func13 (by kernel_rfl) o h
theorem fw:OE 14 Tryz.f14:=fun o h=>aP.ai mixed Tryz.func14 (by kernel_rfl) o h
theorem fu:OE 15 Tryz.f15:=fun o h=>aP.ai mixed Tryz.func15 (by kernel_rfl) o h
theorem NV:OE 16 Tryz.f16:=fun o h=>aP.ai mixed Tryz.func16 (by kernel_rfl) o h
theorem AM:OE 17 Tryz.f17:=fun o h=>aP.ai mixed Tryz.func17 (by kernel_rfl) o h
theorem L3:OE 21 Tryz.f21:=fun o h=>aP.ai mixed Tryz.func21 (by kernel_rfl) o h
theorem qN:OE 26 Tryz.f26:=fun o h=>aP.ai mixed Tryz.func26 (by kernel_rfl) o h
theorem lM:OE 27 Tryz.f27:=fun o h=>aP.ai mixed Tryz.func27 (by kernel_rfl) o h
theorem jD:OE 30 Tryz.f30:=fun o h=>aP.ai mixed Tryz.func30 (by kernel_rfl) o h
theorem kV:OE 31 Tryz.f31:=fun o h=>aP.ai mixed Tryz.func31 (by kernel_rfl) o h
theorem rf:OE 35 Tryz.f35:=fun o h=>aP.ai mixed Tryz.func35 (by kernel_rfl) o h
theorem gg:OE 41 Tryz.f41:=fun o h=>aP.ai mixed Tryz.func41 (by kernel_rfl) o h
theorem gj:OE 42 Tryz.f42:=fun o h=>aP.ai mixed Tryz.func42 (by kernel_rfl) o h
theorem kA:OE 43 Tryz.f43:=fun o h=>aP.ai mixed Tryz.func43 (by kernel_rfl) o h
theorem lr:OE 57 Tryz.f57:=fun o h=>aP.ai mixed Tryz.func57 (by kernel_rfl) o h
theorem SK:OE 58 Tryz.f58:=fun o h=>aP.ai mixed Tryz.func58 (by kernel_rfl) o h
theorem SJ:OE 59 Tryz.f59:=fun o h=>aP.ai mixed Tryz.func59 (by kernel_rfl) o h
theorem L2:OE 60 Tryz.f60:=fun o h=>aP.ai mixed Tryz.func60 (by kernel_rfl) o h
theorem Tx:OE 61 Tryz.f61:=fun o h=>aP.ai mixed Tryz.func61 (by kernel_rfl) o h
theorem Tw:OE 62 Tryz.f62:=fun o h=>aP.ai mixed Tryz.func62 (by kernel_rfl) o h
theorem Tv:OE 63 Tryz.f63:=fun o h=>aP.ai mixed Tryz.func63 (by kernel_rfl) o h
theorem Tu:OE 64 Tryz.f64:=fun o h=>aP.ai mixed Tryz.func64 (by kernel_rfl) o h
theorem Tt:OE 65 Tryz.f65:=fun o h=>aP.ai mixed Tryz.func65 (by kernel_rfl) o h
theorem Ts:OE 66 Tryz.f66:=fun o h=>aP.ai mixed Tryz.func66 (by kernel_rfl) o h
theorem yU:OE 67 Tryz.f67:=fun o h=>aP.ai mixed Tryz.func67 (by kernel_rfl) o h
theorem Tq:OE 68 Tryz.f68:=fun o h=>aP.ai mixed Tryz.func68 (by kernel_rfl) o h
theorem Tp:OE 69 Tryz.f69:=fun o h=>aP.ai mixed Tryz.func69 (by kernel_rfl) o h
theorem SI:OE 70 Tryz.f70:=fun o h=>aP.ai mixed Tryz.func70 (by kernel_rfl) o h
theorem eg:OE 72 Tryz.f72:=fun o h=>aP.ai mixed Tryz.func72 (by kernel_rfl) o h
theorem RY:OE 73 Tryz.f73:=fun o h=>aP.ai mixed Tryz.func73 (by kernel_rfl) o h
theorem PY:OE 75 Tryz.f75:=fun o h=>aP.ai mixed Tryz.func75 (by kernel_rfl) o h
theorem Tn:OE 76 Tryz.f76:=fun o h=>aP.ai mixed Tryz.func76 (by kernel_rfl) o h
theorem Tm:OE 77 Tryz.f77:=fun o h=>aP.ai mixed Tryz.func77 (by kernel_rfl) o h
theorem lL:OE 83 Tryz.f83:=fun o h=>aP.ai mixed Tryz.func83 (by kernel_rfl) o h
theorem Ru:OE 89 Tryz.f89:=fun o h=>aP.ai mixed Tryz.func89 (by kernel_rfl) o h
theorem Tl:OE 90 Tryz.f90:=fun o h=>aP.ai mixed Tryz.func90 (by kernel_rfl) o h
theorem L1:OE 93 Tryz.f93:=fun o h=>aP.ai mixed Tryz.func93 (by kernel_rfl) o h
theorem SH:OE 95 Tryz.f95:=fun o h=>aP.ai mixed Tryz.func95 (by kernel_rfl) o h
theorem Tk:OE 96 Tryz.f96:=fun o h=>aP.ai mixed Tryz.func96 (by kernel_rfl) o h
theorem re:OE 97 Tryz.f97:=fun o h=>aP.ai mixed Tryz.func97 (by kernel_rfl) o h
theorem tY:OE 98 Tryz.f98:=fun o h=>aP.ai mixed Tryz.func98 (by kernel_rfl) o h
theorem Tj:OE 99 Tryz.f99:=fun o h=>aP.ai mixed Tryz.func99 (by kernel_rfl) o h
theorem R9:OE 100 Tryz.f100:=fun o h=>aP.ai mixed Tryz.func100 (by kernel_rfl) o h
theorem R8:OE 101 Tryz.f101:=fun o h=>aP.ai mixed Tryz.func101 (by kernel_rfl) o h
theorem R7:OE 102 Tryz.f102:=fun o h=>aP.ai mixed Tryz.func102 (by kernel_rfl) o h
theorem QJ:OE 104 Tryz.f104:=fun o h=>aP.ai mixed Tryz.func104 (by kernel_rfl) o h
theorem QI:OE 105 Tryz.f105:=fun o h=>aP.ai mixed Tryz.func105 (by kernel_rfl) o h
theorem R6:OE 106 Tryz.f106:=fun o h=>aP.ai mixed Tryz.func106 (by kernel_rfl) o h
theorem QH:OE 108 Tryz.f108:=fun o h=>aP.ai mixed Tryz.func108 (by kernel_rfl) o h
theorem R5:OE 116 Tryz.f116:=fun o h=>aP.ai mixed Tryz.func116 (by kernel_rfl) o h
theorem QG:OE 129 Tryz.f129:=fun o h=>aP.ai mixed Tryz.func129 (by kernel_rfl) o h
theorem QF:OE 130 Tryz.f130:=fun o h=>aP.ai mixed Tryz.func130 (by kernel_rfl) o h
theorem R4:OE 131 Tryz.f131:=fun o h=>aP.ai mixed Tryz.func131 (by kernel_rfl) o h
theorem QE:OE 132 Tryz.f132:=fun o h=>aP.ai mixed Tryz.func132 (by kernel_rfl) o h
theorem R3:OE 133 Tryz.f133:=fun o h=>aP.ai mixed Tryz.func133 (by kernel_rfl) o h
theorem R2:OE 134 Tryz.f134:=fun o h=>aP.ai mixed Tryz.func134 (by kernel_rfl) o h
theorem QD:OE 136 Tryz.f136:=fun o h=>aP.ai mixed Tryz.func136 (by kernel_rfl) o h
theorem QC:OE 137 Tryz.f137:=fun o h=>aP.ai mixed Tryz.func137 (by kernel_rfl) o h
theorem QB:OE 138 Tryz.f138:=fun o h=>aP.ai mixed Tryz.func138 (by kernel_rfl) o h
theorem AN:OE 142 Tryz.f142:=fun o h=>aP.ai mixed Tryz.func142 (by kernel_rfl) o h
theorem iv:OE 157 Tryz.f157:=fun o h=>aP.ai mixed Tryz.func157 (by kernel_rfl) o h
theorem MK:OE 158 Tryz.f158:=fun o h=>aP.ai mixed Tryz.func158 (by kernel_rfl) o h
theorem G2:OE 159 Tryz.f159:=fun o h=>aP.ai mixed Tryz.func159 (by kernel_rfl) o h
theorem xV:OE 160 Tryz.f160:=fun o h=>aP.ai mixed Tryz.func160 (by kernel_rfl) o h
theorem KD:OE 161 Tryz.f161:=fun o h=>aP.ai mixed Tryz.func161 (by kernel_rfl) o h
theorem QA:OE 167 Tryz.f167:=fun o h=>aP.ai mixed Tryz.func167 (by kernel_rfl) o h
theorem R0:OE 168 Tryz.f168:=fun o h=>aP.ai mixed Tryz.func168 (by kernel_rfl) o h
theorem RZ:OE 169 Tryz.f169:=fun o h=>aP.ai mixed Tryz.func169 (by kernel_rfl) o h
theorem ru (a b c d:Int) (a0:0≤a) (a1:a≤255) (b0:0≤b) (b1:b≤255) (c0:0≤c) (c1:c≤255) (d0:0≤d) (d1:d≤255):aP Z9 169 ([aZ 1 [aC a,aC b,aC c,aC d]]) (au (a+256*b+65536*c+16777216*d)):=(RZ (d:= .int .u64 (abz.wrap abz.u64 (↑(aab (Z8 (64:Nat) (abz.wrap abz.u64 (abz.wrap abz.u64 (↑(aab (Z8 (64:Nat) (abz.wrap abz.u64 (abz.wrap abz.u64 (↑(aab (Z8 (64:Nat) (abz.wrap abz.u64 (abz.wrap abz.u64 (↑(aab (Z8 (64:Nat) 0|||Z8 (64:Nat) (abz.wrap abz.u64 d))):Int)*256))|||Z8 (64:Nat) (abz.wrap abz.u64 c))):Int)*256))|||Z8 (64:Nat) (abz.wrap abz.u64 b))):Int)*256))|||Z8 (64:Nat) (abz.wrap abz.u64 a))):Int))) ([.go 64]++cr 9 255)).to (by simp only [wk,D.int.injEq,fm];rw [O0 (y:=d) (by omega) (by omega),Fe (x:=d) (y:=c) (by omega) (by omega) (by omega) (by omega),Fe (x:=d*256+c) (y:=b) (by omega) (by omega) (by omega) (by omega),Fe (x:=(d*256+c)*256+b) (y:=a) (by omega) (by omega) (by omega) (by omega)];omega)
theorem sg (a b c d:Int) (a0:0≤a) (a1:a≤255) (b0:0≤b) (b1:b≤255) (c0:0≤c) (c1:c≤255) (d0:0≤d) (d1:d≤255):aP Z9 168 ([aZ 1 [aC a,aC b,aC c,aC d]]) (av (fP a b c d)):=(R0 (d:= .int .i64 (abz.i64.wrap (↑(aab (Z8 (64:Nat) (abz.i64.wrap (abz.i64.wrap (↑(aab (Z8 (64:Nat) (abz.i64.wrap (abz.i64.wrap (↑(aab (Z8 (64:Nat) (abz.i64.wrap (abz.i64.wrap (abz.wrap abz.i8 d)*256))|||Z8 (64:Nat) (abz.wrap abz.i64 c))):Int)*256))|||Z8 (64:Nat) (abz.wrap abz.i64 b))):Int)*256))|||Z8 (64:Nat) (abz.wrap abz.i64 a))):Int))) [tT,tF,tT,.go 64,tT,tT,tT,tT,tT,tT,tF]).to (by simp only [wk,D.int.injEq,fm,dk];rw [show abz.i64.wrap ((d+128)%256 - 128)=(d+128)%256 - 128 by rw [aN];omega,CM (x:=(d+128)%256 - 128) (y:=c) (by omega) (by omega) (by omega) (by omega),CM (x:=((d+128)%256 - 128)*256+c) (y:=b) (by omega) (by omega) (by omega) (by omega),CM (x:=(((d+128)%256 - 128)*256+c)*256+b) (y:=a) (by omega) (by omega) (by omega) (by omega)];simp only [fP];omega)
theorem Fc (b:List Int) (i:Int) (hi:0≤i):aP Z9 158 ([aZ 1 (bD b),av i]) (aC (tW b i.toNat)):=by
 rcases cf (decide ((↑(aaa (bD b)):Int)≤i)) with h0|h0
 ·exact (MK (d:= .int .u8 0) [tC h0]).to (by simp only [wk,D.int.injEq,fm];first|done|(symm;apply AF;simp only [bS] at*;omega))
 exact (MK (d:= .int .u8 (tW b (aal i))) [tC h0,tC (v:=true) (bQ 0 (bF (Int.not_lt.2 hi))),.get _ _ _ (@Pu b i hi (by (simp only [cH] at*;omega)))]).to (by simp only [wk,D.int.injEq,fm];first|done|(symm;apply AF;simp only [bS] at*;omega))
theorem Jg (b:List Int) (i:Int) (hi:0≤i) (h6:i≤6) (hs:((bD b).length:Int)<i+4):aP Z9 161 ([aZ 1 (bD b),av i]) (av 0):=(KD (d:= .int .i64 0) [tC (by (simp only [cH] at*;omega):(decide ((↑(aaa (bD b)):Int)<abz.i64.wrap (i+4)))=true)]).to (by simp [wk])
theorem Ol (v:Int) (v0:0≤v) (v1:v≤255) (hq:mg v=true):aP Z9 159 ([aC v]) (.aL [ax (decide (v / 8%2=1)),ao (v / 4%2*8),ao (v%2*8),ax true]):=by
 by_cases h0:aaQ v 16=4
 ·let E1:EL:=(Z7 3 (tC (eF (nt (cK 4 true h0))))++ [tC (nt (cK 4 true h0))])
  by_cases h1:abz.wrap abz.u8 (↑(aab (Z8 (8:Nat) v&&&Z8 (8:Nat) 2)):Int)=0
  ·exact (G2 (d:= .aL [ax (abz.wrap abz.u8 (↑(aab (Z8 (8:Nat) v&&&Z8 (8:Nat) 8)):Int) !=0),ao (abz.wrap abz.i8 (abz.wrap abz.u8 (↑(aab (Z8 (8:Nat) (abz.wrap abz.u8 (v*2))&&&Z8 (8:Nat) 8)):Int))),ao (abz.wrap abz.i8 (abz.wrap abz.u8 (↑(aab (Z8 (8:Nat) (abz.wrap abz.u8 (v*8))&&&Z8 (8:Nat) 8)):Int))),ax true]) (E1++ [tC (nt (cK 0 true h1))])).to (by clear E1;simp only [wk,bf,D.int.injEq,D.bool.injEq,fm,ey];obtain ⟨n,rfl⟩:=mL v0 v1;clear v0 v1;revert n;decide+kernel)
  exact (G2 (d:= .aL [ax false,ao 0,ao 0,ax false]) (E1++ [tC (nt (bc h1))])).to (by clear E1;simp only [wk,bf,D.int.injEq,D.bool.injEq,fm,ey];obtain ⟨n,rfl⟩:=mL v0 v1;clear v0 v1;revert n;decide+kernel)
 exact (G2 (d:= .aL [ax false,ao 0,ao 0,ax false]) (Z7 3 (tC (eF (nt (bc h0))))++ [tC (nt (bc h0)),tT])).to (by simp only [wk,bf,D.int.injEq,D.bool.injEq,fm,ey];obtain ⟨n,rfl⟩:=mL v0 v1;clear v0 v1;revert n;decide+kernel)
theorem JH (v:Int) (v0:0≤v) (v1:v≤255) (hq:mg v=false):aP Z9 159 ([aC v]) (.aL [ax false,ao 0,ao 0,ax false]):=by
 by_cases h0:aaQ v 16=4
 ·let E1:EL:=(Z7 3 (tC (eF (nt (cK 4 true h0))))++ [tC (nt (cK 4 true h0))])
  by_cases h1:abz.wrap abz.u8 (↑(aab (Z8 (8:Nat) v&&&Z8 (8:Nat) 2)):Int)=0
  ·exact (G2 (d:= .aL [ax (abz.wrap abz.u8 (↑(aab (Z8 (8:Nat) v&&&Z8 (8:Nat) 8)):Int) !=0),ao (abz.wrap abz.i8 (abz.wrap abz.u8 (↑(aab (Z8 (8:Nat) (abz.wrap abz.u8 (v*2))&&&Z8 (8:Nat) 8)):Int))),ao (abz.wrap abz.i8 (abz.wrap abz.u8 (↑(aab (Z8 (8:Nat) (abz.wrap abz.u8 (v*8))&&&Z8 (8:Nat) 8)):Int))),ax true]) (E1++ [tC (nt (cK 0 true h1))])).to (by clear E1;first|(simp [wk,bf];done)|(simp only [wk,bf,D.int.injEq,D.bool.injEq,fm,ey];obtain ⟨n,rfl⟩:=mL v0 v1;clear v0 v1;revert n;decide+kernel))
  exact (G2 (d:= .aL [ax false,ao 0,ao 0,ax false]) (E1++ [tC (nt (bc h1))])).to (by clear E1;first|(simp [wk,bf];done)|(simp only [wk,bf,D.int.injEq,D.bool.injEq,fm,ey];obtain ⟨n,rfl⟩:=mL v0 v1;clear v0 v1;revert n;decide+kernel))
 exact (G2 (d:= .aL [ax false,ao 0,ao 0,ax false]) (Z7 3 (tC (eF (nt (bc h0))))++ [tC (nt (bc h0)),tT])).to (by first|(simp [wk,bf];done)|(simp only [wk,bf,D.int.injEq,D.bool.injEq,fm,ey];obtain ⟨n,rfl⟩:=mL v0 v1;clear v0 v1;revert n;decide+kernel))
theorem Jk (a b c d:Int) (t:List Int) (a0:0≤a) (a1:a≤255) (b0:0≤b) (b1:b≤255) (c0:0≤c) (c1:c≤255) (d0:0≤d) (d1:d≤255):aP Z9 161 ([aZ 1 (aC a::aC b::aC c::aC d::bD t),av 0]) (av (fP a b c d)):=by
 have c0:= @ru a b c d a0 a1 b0 b1 c0 c1 d0 d1
 exact (KD (d:= .int .i64 (abz.i64.wrap (abz.wrap abz.i32 (a+(256:Int)*b+(65536:Int)*c+(16777216:Int)*d)))) [tF,.cX (decide ((0:Int)≤(0:Int)∧(0:Int)≤abz.i64.wrap ((0:Int)+(4:Int))∧abz.i64.wrap ((0:Int)+(4:Int))≤(↑(aaa (aC a::aC b::aC c::aC d::bD t)):Int))) true (by ((try simp only [aaw,aQ,cH] at*);omega)),aw c0]).to (by simp only [wk,D.int.injEq,fm,nF,aN,fP];omega)
theorem Jj (y0 a b c d:Int) (t:List Int) (a0:0≤a) (a1:a≤255) (b0:0≤b) (b1:b≤255) (c0:0≤c) (c1:c≤255) (d0:0≤d) (d1:d≤255):aP Z9 161 ([aZ 1 (aC y0::aC a::aC b::aC c::aC d::bD t),av 1]) (av (fP a b c d)):=by
 have c0:= @ru a b c d a0 a1 b0 b1 c0 c1 d0 d1
 exact (KD (d:= .int .i64 (abz.i64.wrap (abz.wrap abz.i32 (a+(256:Int)*b+(65536:Int)*c+(16777216:Int)*d)))) [tF,.cX (decide ((0:Int)≤(1:Int)∧(1:Int)≤abz.i64.wrap ((1:Int)+(4:Int))∧abz.i64.wrap ((1:Int)+(4:Int))≤(↑(aaa (aC y0::aC a::aC b::aC c::aC d::bD t)):Int))) true (by ((try simp only [aaw,aQ,cH] at*);omega)),aw c0]).to (by simp only [wk,D.int.injEq,fm,nF,aN,fP];omega)
theorem Ji (y0 y1 y2 y3 y4 a b c d:Int) (t:List Int) (a0:0≤a) (a1:a≤255) (b0:0≤b) (b1:b≤255) (c0:0≤c) (c1:c≤255) (d0:0≤d) (d1:d≤255):aP Z9 161 ([aZ 1 (aC y0::aC y1::aC y2::aC y3::aC y4::aC a::aC b::aC c::aC d::bD t),av 5]) (av (fP a b c d)):=by
 have c0:= @ru a b c d a0 a1 b0 b1 c0 c1 d0 d1
 exact (KD (d:= .int .i64 (abz.i64.wrap (abz.wrap abz.i32 (a+(256:Int)*b+(65536:Int)*c+(16777216:Int)*d)))) [tF,.cX (decide ((0:Int)≤(5:Int)∧(5:Int)≤abz.i64.wrap ((5:Int)+(4:Int))∧abz.i64.wrap ((5:Int)+(4:Int))≤(↑(aaa (aC y0::aC y1::aC y2::aC y3::aC y4::aC a::aC b::aC c::aC d::bD t)):Int))) true (by ((try simp only [aaw,aQ,cH] at*);omega)),aw c0]).to (by simp only [wk,D.int.injEq,fm,nF,aN,fP];omega)
theorem Jh (y0 y1 y2 y3 y4 y5 a b c d:Int) (t:List Int) (a0:0≤a) (a1:a≤255) (b0:0≤b) (b1:b≤255) (c0:0≤c) (c1:c≤255) (d0:0≤d) (d1:d≤255):aP Z9 161 ([aZ 1 (aC y0::aC y1::aC y2::aC y3::aC y4::aC y5::aC a::aC b::aC c::aC d::bD t),av 6]) (av (fP a b c d)):=by
 have c0:= @ru a b c d a0 a1 b0 b1 c0 c1 d0 d1
 exact (KD (d:= .int .i64 (abz.i64.wrap (abz.wrap abz.i32 (a+(256:Int)*b+(65536:Int)*c+(16777216:Int)*d)))) [tF,.cX (decide ((0:Int)≤(6:Int)∧(6:Int)≤abz.i64.wrap ((6:Int)+(4:Int))∧abz.i64.wrap ((6:Int)+(4:Int))≤(↑(aaa (aC y0::aC y1::aC y2::aC y3::aC y4::aC y5::aC a::aC b::aC c::aC d::bD t)):Int))) true (by ((try simp only [aaw,aQ,cH] at*);omega)),aw c0]).to (by simp only [wk,D.int.injEq,fm,nF,aN,fP];omega)
theorem G8:aP Z9 160 ([aZ 1 []]) (.aL [ao 0,ao 0,av 0,ax false,av 0,av 30]):=(xV (d:= .aL [ao 0,ao 0,av 0,ax false,av 0,av 30]) [tT]).to (by simp [wk,bf])
theorem G7 (v:Int) (v0:0≤v) (v1:v≤255) (t:List Int) (h3:v / 64=3):aP Z9 160 ([aZ 1 (aC v::bD t)]) (.aL [ao (v / 8%8),ao (v%8),av (0),ax false,av 1,av 0]):=(xV (d:= .aL [ao (abz.wrap abz.i8 (abz.wrap abz.u8 (↑(aab (Z8 (8:Nat) (aaQ v 8)&&&Z8 (8:Nat) 7)):Int))),ao (abz.wrap abz.i8 (abz.wrap abz.u8 (↑(aab (Z8 (8:Nat) v&&&Z8 (8:Nat) 7)):Int))),av 0,ax false,av 1,av 0]) ([tF]++Z7 3 (.get (aC v::bD t) 0 (aC v) rfl)++ [tC (cK 3 true (eq_of_beq (@Oe v h3)))])).to (by simp only [wk,bf,D.int.injEq,D.bool.injEq,fm,ey,AU,Pd v0 v1,and_self];first|done|omega)
theorem CY (v:Int) (v0:0≤v) (v1:v≤255) (a b c d:Int) (t:List Int) (a0:0≤a) (a1:a≤255) (b0:0≤b) (b1:b≤255) (c0:0≤c) (c1:c≤255) (d0:0≤d) (d1:d≤255) (h2:v / 64=2) (hr:¬v%8=4):aP Z9 160 ([aZ 1 (aC v::aC a::aC b::aC c::aC d::bD t)]) (.aL [ao (v / 8%8),ao (v%8),av (fP a b c d),ax true,av 5,av 0]):=by
 have c0:= @sg a b c d a0 a1 b0 b1 c0 c1 d0 d1
 generalize g2:fP a b c d=r1 at c0
 exact (xV (d:= .aL [ao (abz.wrap abz.i8 (abz.wrap abz.u8 (↑(aab (Z8 (8:Nat) (aaQ v (8:Int))&&&Z8 (8:Nat) (7:Int))):Int))),ao (abz.wrap abz.i8 (abz.wrap abz.u8 (↑(aab (Z8 (8:Nat) v&&&Z8 (8:Nat) (7:Int))):Int))),av r1,ax true,av 5,av 0]) ([tF]++Z7 3 (.get (aC v::aC a::aC b::aC c::aC d::bD t) 0 (aC v) rfl)++ [tC (@rQ (v) h2),tC (cK 2 true (eq_of_beq (@rR (v) h2))),tC (@KN (v) hr)]++Z7 3 (tC (eT (bQ 5 (by ((try simp only [aaw,aaC,aQ,cH] at*);omega):(decide ((↑(aaa (aC v::aC a::aC b::aC c::aC d::bD t)):Int)<(5:Int)))=false))))++ [tF,tF,tF,tF,tC (eT (bQ 5 (by ((try simp only [aaw,aaC,aQ,cH] at*);omega):(decide ((↑(aaa (aC v::aC a::aC b::aC c::aC d::bD t)):Int)<(5:Int)))=false))),tT,tC (bQ 5 (by ((try simp only [aaw,aaC,aQ,cH] at*);omega):(decide ((↑(aaa (aC v::aC a::aC b::aC c::aC d::bD t)):Int)<(5:Int)))=false)),tT,.cX (decide ((0:Int)≤(1:Int)∧(1:Int)≤abz.i64.wrap ((1:Int)+(4:Int))∧abz.i64.wrap ((1:Int)+(4:Int))≤(↑(aaa (aC v::aC a::aC b::aC c::aC d::bD t)):Int))) true (by ((try simp only [aaw,aaC,aQ,cH] at*);omega)),aw c0])).to (by simp only [wk,bf,D.int.injEq,D.bool.injEq,fm,ey,AU,Pd v0 v1,and_self];first|done|omega)
theorem CX (v:Int) (v0:0≤v) (v1:v≤255) (a b c d:Int) (t:List Int) (a0:0≤a) (a1:a≤255) (b0:0≤b) (b1:b≤255) (c0:0≤c) (c1:c≤255) (d0:0≤d) (d1:d≤255) (h2:v / 64=2) (hr:v%8=4):aP Z9 160 ([aZ 1 (aC v::aC 36::aC a::aC b::aC c::aC d::bD t)]) (.aL [ao (v / 8%8),ao (v%8),av (fP a b c d),ax true,av 6,av 0]):=by
 have c0:= @sg a b c d a0 a1 b0 b1 c0 c1 d0 d1
 generalize g2:fP a b c d=r1 at c0
 exact (xV (d:= .aL [ao (abz.wrap abz.i8 (abz.wrap abz.u8 (↑(aab (Z8 (8:Nat) (aaQ v (8:Int))&&&Z8 (8:Nat) (7:Int))):Int))),ao (abz.wrap abz.i8 (abz.wrap abz.u8 (↑(aab (Z8 (8:Nat) v&&&Z8 (8:Nat) (7:Int))):Int))),av r1,ax true,av 6,av 0]) ([tF]++Z7 3 (.get (aC v::aC 36::aC a::aC b::aC c::aC d::bD t) 0 (aC v) rfl)++ [tC (@rQ (v) h2),tC (cK 2 true (eq_of_beq (@rR (v) h2))),tC (cK 4 true (eq_of_beq (@C6 (v) hr)))]++Z7 3 (tC (eT (bQ 6 (by ((try simp only [aaw,aaC,aQ,cH] at*);omega):(decide ((↑(aaa (aC v::aC 36::aC a::aC b::aC c::aC d::bD t)):Int)<(6:Int)))=false))))++ [tT,tT,tT,tT,tC (eT (bQ 6 (by ((try simp only [aaw,aaC,aQ,cH] at*);omega):(decide ((↑(aaa (aC v::aC 36::aC a::aC b::aC c::aC d::bD t)):Int)<(6:Int)))=false))),tF,tC (bQ 6 (by ((try simp only [aaw,aaC,aQ,cH] at*);omega):(decide ((↑(aaa (aC v::aC 36::aC a::aC b::aC c::aC d::bD t)):Int)<(6:Int)))=false)),tT,.cX (decide ((0:Int)≤(2:Int)∧(2:Int)≤abz.i64.wrap ((2:Int)+(4:Int))∧abz.i64.wrap ((2:Int)+(4:Int))≤(↑(aaa (aC v::aC 36::aC a::aC b::aC c::aC d::bD t)):Int))) true (by ((try simp only [aaw,aaC,aQ,cH] at*);omega)),aw c0])).to (by simp only [wk,bf,D.int.injEq,D.bool.injEq,fm,ey,AU,Pd v0 v1,and_self];first|done|omega)
theorem G9 (v:Int) (v0:0≤v) (v1:v≤255) (t:List Int) (hl:v / 64<2):aP Z9 160 ([aZ 1 (aC v::bD t)]) (.aL [ao 0,ao 0,av 0,ax false,av 0,av 30]):=(xV (d:= .aL [ao 0,ao 0,av 0,ax false,av 0,av 30]) ([tF]++Z7 3 (.get (aC v::bD t) 0 (aC v) rfl)++ [tC (@Mf v hl),tC (@Og v hl)])).to (by simp [wk,bf])
theorem G6 (v:Int) (v0:0≤v) (v1:v≤255) (t:List Int) (h2:v / 64=2) (hr:¬v%8=4) (hs:t.length<4):aP Z9 160 ([aZ 1 (aC v::bD t)]) (.aL [ao 0,ao 0,av 0,ax false,av 0,av 30]):=(xV (d:= .aL [ao 0,ao 0,av 0,ax false,av 0,av 30]) ([tF]++Z7 3 (.get (aC v::bD t) 0 (aC v) rfl)++ [tC (@rQ v h2),tC (cK 2 true (eq_of_beq (@rR v h2))),tC (@KN v hr)]++Z7 4 (tC (eT (bQ 5 (by ((try simp only [aaw,aaC,aQ,cH] at*);omega):(decide ((↑(aaa (aC v::bD t)):Int)<5))=true))))++ [tC (bQ 5 (by ((try simp only [aaw,aaC,aQ,cH] at*);omega):(decide ((↑(aaa (aC v::bD t)):Int)<5))=true)),tF])).to (by simp [wk,bf])
theorem uX (v:Int) (v0:0≤v) (v1:v≤255) (t:List Int) (h2:v / 64=2) (hr:v%8=4) (hs:t.length<5):aP Z9 160 ([aZ 1 (aC v::bD t)]) (.aL [ao 0,ao 0,av 0,ax false,av 0,av 30]):=(xV (d:= .aL [ao 0,ao 0,av 0,ax false,av 0,av 30]) ([tF]++Z7 3 (.get (aC v::bD t) 0 (aC v) rfl)++ [tC (@rQ v h2),tC (cK 2 true (eq_of_beq (@rR v h2))),tC (cK 4 true (eq_of_beq (@C6 v hr)))]++Z7 4 (tC (eT (bQ 6 (by ((try simp only [aaw,aaC,aQ,cH] at*);omega):(decide ((↑(aaa (aC v::bD t)):Int)<6))=true))))++ [tC (bQ 6 (by ((try simp only [aaw,aaC,aQ,cH] at*);omega):(decide ((↑(aaa (aC v::bD t)):Int)<6))=true)),tF])).to (by simp [wk,bf])
theorem G5 (v:Int) (v0:0≤v) (v1:v≤255) (s:Int) (t:List Int) (h2:v / 64=2) (hr:v%8=4) (hs:¬s=36):aP Z9 160 ([aZ 1 (aC v::aC s::bD t)]) (.aL [ao 0,ao 0,av 0,ax false,av 0,av 30]):=by
 let E1:EL:=([tF]++Z7 3 (.get (aC v::aC s::bD t) 0 (aC v) rfl)++ [tC (@rQ v h2),tC (cK 2 true (eq_of_beq (@rR v h2))),tC (cK 4 true (eq_of_beq (@C6 v hr)))])
 rcases cf (decide ((↑(aaa (aC v::aC s::bD t)):Int)<6)) with h0|h0
 ·exact (xV (d:= .aL [ao 0,ao 0,av 0,ax false,av 0,av 30]) (E1++Z7 4 (tC (eT (bQ 6 h0)))++ [tC (bQ 6 h0),tF])).to (by clear E1;simp [wk,bf])
 exact (xV (d:= .aL [ao 0,ao 0,av 0,ax false,av 0,av 30]) (E1++Z7 3 (tC (eT (bQ 6 h0)))++ [tT,tT,tT,tT,tC (eT (bQ 6 h0)),tF,tC (bQ 6 h0),tC (by ((try simp only [aaw,aaC,aQ,cH] at*);omega):(s==36)=false)])).to (by clear E1;simp [wk,bf])
theorem pr (t:List Int):t.length<4∨∃a b c d r,t=a::b::c::d::r:=by
 match t with
 | []=>exact .inl (by simp)
 | [_]=>exact .inl (by simp)
 | [_,_]=>exact .inl (by simp)
 | [_,_,_]=>exact .inl (by simp)
 |a::b::c::d::r=>exact .inr ⟨a,b,c,d,r,rfl⟩
theorem QO (v:List Int) (hv:dr v):aP Z9 160 [aZ 1 (bD v)] (.aL [ao (u6 v),ao (u9 v),av (Hb v),ax (decide (2≤kJ v)),av (kJ v:Int),av (uv v)]):=by
 match v,hv with
 | [],_=>exact G8.cast rfl rfl
 |v::t,hv=>
  obtain ⟨⟨v0,v1⟩,ht⟩:=fH.1 hv
  have e:bD (v::t)= .int .u8 v::bD t:=rfl
  by_cases h3:v / 64=3
  ·have hn:kJ (v::t)=1:=by simp [kJ,h3]
   refine (G7 v v0 v1 t h3).cast rfl ?_
   simp [u6,u9,Hb,uv,hn,hd]
  ·by_cases h2:v / 64=2
   ·by_cases hr:v%8=4
    ·match t,ht with
     | [],ht=>
      have hn:kJ [v]=0:=by simp [kJ,h2,hr]
      refine (uX v v0 v1 [] h2 hr (by simp)).cast rfl ?_
      simp [u6,u9,Hb,uv,hn]
     |s::t,ht=>
      by_cases hs:s=36
      ·subst hs
       rcases pr t with hl|⟨a,b,c,d,r,rfl⟩
       ·have hn:kJ (v::36::t)=0:=by simp [kJ,h2,hr,hd];omega
        refine (uX v v0 v1 (36::t) h2 hr (by simp;omega)).cast rfl ?_
        simp [u6,u9,Hb,uv,hn]
       ·have hn:kJ (v::36::a::b::c::d::r)=6:=by simp [kJ,h2,hr,hd]
        simp only [fH] at ht
        obtain ⟨-,⟨a0,a1⟩,⟨b0,b1⟩,⟨c0,c1⟩,⟨d0,d1⟩,-⟩:=ht
        refine (CX v v0 v1 a b c d r a0 a1 b0 b1 c0 c1 d0 d1 h2 hr).cast rfl ?_
        simp [u6,u9,Hb,uv,hn,hd,BE]
      ·have hn:kJ (v::s::t)=0:=by simp [kJ,h2,hr,hd,hs]
       refine (G5 v v0 v1 s t h2 hr hs).cast rfl ?_
       simp [u6,u9,Hb,uv,hn]
    ·rcases pr t with hl|⟨a,b,c,d,r,rfl⟩
     ·have hn:kJ (v::t)=0:=by simp [kJ,h2,hr];omega
      refine (G6 v v0 v1 t h2 hr hl).cast rfl ?_
      simp [u6,u9,Hb,uv,hn]
     ·have hn:kJ (v::a::b::c::d::r)=5:=by simp [kJ,h2,hr]
      simp only [fH] at ht
      obtain ⟨⟨a0,a1⟩,⟨b0,b1⟩,⟨c0,c1⟩,⟨d0,d1⟩,-⟩:=ht
      refine (CY v v0 v1 a b c d r a0 a1 b0 b1 c0 c1 d0 d1 h2 hr).cast rfl ?_
      simp [u6,u9,Hb,uv,hn,hd,BE]
   ·have hn:kJ (v::t)=0:=by simp [kJ,h2,h3]
    refine (G9 v v0 v1 t (by omega)).cast rfl ?_
    simp [u6,u9,Hb,uv,hn]
theorem EE (b:List Int) (hb:dr b) (i:Nat) (hi:i=0∨i=1∨i=5∨i=6):aP Z9 161 [aZ 1 (bD b),av (i:Int)] (av (EB b i)):=by
 by_cases hs:b.length<i+4
 ·refine (Jg b i (by omega) (by omega) (by rw [aQ];omega)).cast rfl ?_
  simp [EB,hs]
 ·have hq:∀ {x:D},EB b i=BE (b.drop i):=fun {_} =>by simp [EB,hs]
  rw [hq (x:= .undef)]
  rcases hi with rfl|rfl|rfl|rfl
  ·match b,hb,hs with
   |a::b::c::d::t,hb,_=>
    simp only [fH] at hb
    obtain ⟨⟨a0,a1⟩,⟨b0,b1⟩,⟨c0,c1⟩,⟨d0,d1⟩,-⟩:=hb
    exact (Jk a b c d t a0 a1 b0 b1 c0 c1 d0 d1).cast rfl rfl
   | [],_,hs| [_],_,hs| [_,_],_,hs| [_,_,_],_,hs=>simp at hs
  ·match b,hb,hs with
   |y::a::b::c::d::t,hb,_=>
    simp only [fH] at hb
    obtain ⟨-,⟨a0,a1⟩,⟨b0,b1⟩,⟨c0,c1⟩,⟨d0,d1⟩,-⟩:=hb
    exact (Jj y a b c d t a0 a1 b0 b1 c0 c1 d0 d1).cast rfl rfl
   | [],_,hs| [_],_,hs| [_,_],_,hs| [_,_,_],_,hs| [_,_,_,_],_,hs=>simp at hs
  ·match b,hb,hs with
   |y0::y1::y2::y3::y4::a::b::c::d::t,hb,_=>
    simp only [fH] at hb
    obtain ⟨-,-,-,-,-,⟨a0,a1⟩,⟨b0,b1⟩,⟨c0,c1⟩,⟨d0,d1⟩,-⟩:=hb
    exact (Ji y0 y1 y2 y3 y4 a b c d t a0 a1 b0 b1 c0 c1 d0 d1).cast rfl rfl
   | [],_,hs| [_],_,hs| [_,_],_,hs| [_,_,_],_,hs| [_,_,_,_],_,hs| [_,_,_,_,_],_,hs| [_,_,_,_,_,_],_,hs| [_,_,_,_,_,_,_],_,hs| [_,_,_,_,_,_,_,_],_,hs=>simp at hs
  ·match b,hb,hs with
   |y0::y1::y2::y3::y4::y5::a::b::c::d::t,hb,_=>
    simp only [fH] at hb
    obtain ⟨-,-,-,-,-,-,⟨a0,a1⟩,⟨b0,b1⟩,⟨c0,c1⟩,⟨d0,d1⟩,-⟩:=hb
    exact (Jh y0 y1 y2 y3 y4 y5 a b c d t a0 a1 b0 b1 c0 c1 d0 d1).cast rfl rfl
   | [],_,hs| [_],_,hs| [_,_],_,hs| [_,_,_],_,hs| [_,_,_,_],_,hs| [_,_,_,_,_],_,hs| [_,_,_,_,_,_],_,hs| [_,_,_,_,_,_,_],_,hs| [_,_,_,_,_,_,_,_],_,hs| [_,_,_,_,_,_,_,_,_],_,hs=>simp at hs
theorem Ha (v:List Int):kJ v=0∨kJ v=1∨kJ v=5∨kJ v=6:=by
 unfold kJ
 split
 ·exact .inl rfl
 ·split
  ·exact .inr (.inl rfl)
  ·split
   ·split<;>split<;>simp
   ·exact .inl rfl
theorem BL (v:List Int) (hv:dr v):aP Z9 161 [aZ 1 (bD v),av (kJ v:Int)] (av (EB v (kJ v))):=EE v hv _ (Ha v)
theorem uF (v:List Int) (hv:dr v):aP Z9 161 [aZ 1 (bD v),av 0] (av (EB v 0)):=EE v hv 0 (.inl rfl)
theorem CL (v:List Int):aP Z9 158 [aZ 1 (bD v),av (kJ v:Int)] (aC (tW v (kJ v))):=(Fc v _ (by omega)).cast rfl (by simp)
theorem uT (v:List Int):aP Z9 158 [aZ 1 (bD v),av 0] (aC (tW v 0)):=Fc v 0 (by omega)
theorem ni (x:Int) (l:List D):aP Z9 158 ([aZ 1 (aC x::l),av 0]) (aC x):=MK [tF,tT] (by kernel_rfl)
theorem uS:aP Z9 158 ([aZ 1 [],av 0]) (aC 0):=MK [tT] (by kernel_rfl)
theorem lX (l:List D):decide ((0:Int)≤1∧(1:Int)≤((ax true::l).length:Int))=true:=by simp<;>omega
theorem lY (l:List D):decide ((0:Int)<((ax true::l).length:Int))=true:=by simp<;>omega
def pI (b:Bool):List Int:=cond b [102] []
def AB (w R M:Int) (eO:Bool) (c:Int) (v:List Int) (n:Nat):D:=
  .aL [.agg [ao w,ax eO,aC c,ao (abz.i8.wrap ((Z8 8 (u6 v)|||Z8 8 R).toNat:Int)),ao (abz.i8.wrap ((Z8 8 (u9 v)|||Z8 8 M).toNat:Int)),av (Hb v),av (EB v n),av (abz.i64.wrap (tW v n)),av (EB v 0),av (abz.i64.wrap (abz.i8.wrap (tW v 0))),ao M],ax true]
theorem m9 {w R M c:Int} {eO:Bool} {v:List Int} {q:Bool} (hv:dr v) (e:(uv v==0)=q) (hR:R=0∨R=8) (hM:M=0∨M=8):wk (AB w R M eO c v (cond q (kJ v) 0)) (.aL [nP (dz w R M eO c v),ax true]):=by
 have k:cond q (kJ v) 0=kJ v:=by
  cases q
  ·exact (Pb (by simpa using e)).symm
  ·rfl
 rw [k]
 simp only [AB,dz,nP,RV hv hR,RW hv hM,Md hv,Oc]
 simp [wk,bf]
def eM {v:List Int} (hv:dr v) {q:Bool} (e:(uv v==0)=q):EL:=
  .ret _ _ _ (QO v hv)::tC (nt e)::cond q [aw (BL v hv),aw (CL v)] [aw (uF v hv),aw (uT v)]++ [aw (uF v hv),aw (uT v)]
def e1 (t:Ev Z9) {v:List Int} (hv:dr v) {q:Bool} (e:(uv v==0)=q):EL:=tC (lX (ax true::bD v))::t::t::t::t::tC (lY (bD v))::tC (lX (bD v))::eM hv e
def eC (f:Ev Z9) {c:Int} {v:List Int} (hv:dr v) {q p:Bool} (e:(uv v==0)=q) (k:(c==15)=p):EL:=tC (lX (bD v))::tC (eT k)::tC (eT k)::tC (eT k)::tC k::f::eM hv e
def fR (t:Ev Z9) (b:Bool) (a:Int) (l:List D) (h:(a==102)=(b&&(a==102))):EL:=
  cond b [aw (ni 102 (aC a::l)),t,tC (lX (aC a::l))] [aw (ni a l),tC h]++ [aw (ni a l)]
def eX (f:Ev Z9) {a:Int} (h0:0≤a) (h1:a≤255) (hq:mg a=false):EL:= [aw (JH a h0 h1 hq),f,f]
def eQ (t:Ev Z9) {a:Int} (h0:0≤a) (h1:a≤255) (hq:mg a=true) (l:List D) {k:Bool} (h:decide (a / 8%2=1)=k):EL:= [aw (Ol a h0 h1 hq),t,tC (lX l),tC h]
def vP {b:Bool} (_:b=b):Bool:=b
theorem Km (b:Bool):aP Z9 142 ([aZ 1 (bD (pI b++ []))]) (.aL [nP (Qy (cond b 16 32) 0),ax false]):=by
 have hb:b=b:=rfl
 cases b<;>exact AN (cond (vP hb) [aw (ni 102 []),tT,tT] [aw uS,tF]++ [aw uS,aw (JH 0 (by decide) (by decide) rfl),tF,tT]) (by kernel_rfl)
theorem Ko (b:Bool) (d:Int) (v:List Int) (hv:dr v):aP Z9 142 ([aZ 1 (bD (pI b++15::d::v))]) (.aL [nP (dz (cond b 16 32) 0 0 true d v),ax true]):=by
 have hb:(15==(102:Int))=(b&&(15==(102:Int))):=by cases b<;>rfl
 cases b<;>rcases cf (uv v==0) with e|e<;>exact (AN (d:=AB (cond _ 16 32) 0 0 true d v _) (fR tT _ 15 (bD (d::v)) hb++eX tF (a:=15) (by decide) (by decide) (by decide)++e1 tT hv e)).to (m9 hv e (.inl rfl) (.inl rfl))
theorem Kn (b:Bool) (c:Int) (k0:0≤c) (k1:c≤255) (hq:mg c=false) (hh:(c==102)=(b&&(c==102))) (v:List Int) (hv:dr v) (hc:c=15→v= []):aP Z9 142 ([aZ 1 (bD (pI b++c::v))]) (.aL [nP (dz (cond b 16 32) 0 0 false c v),ax true]):=by
 rcases cf (c==15) with k|k
 · obtain rfl:=hc (eq_of_beq k)
   cases b<;>rcases cf (uv []==0) with e|e<;>exact (AN (d:=AB (cond _ 16 32) 0 0 false c [] _) (fR tT _ c [] hh++eX tF k0 k1 hq++eC tF hv e k)).to (m9 hv e (.inl rfl) (.inl rfl))
 cases b<;>rcases cf (uv v==0) with e|e<;>exact (AN (d:=AB (cond _ 16 32) 0 0 false c v _) (fR tT _ c (bD v) hh++eX tF k0 k1 hq++eC tF hv e k)).to (m9 hv e (.inl rfl) (.inl rfl))
theorem wI {p:Prop} [Decidable p] {k:Bool} (h:decide p=k) (a b:Int):(if p then a else b)=cond k a b:=by
 cases k
 · exact if_neg (of_decide_eq_false h)
 · exact if_pos (of_decide_eq_true h)
theorem Kp (b:Bool) (h:Int) (g0:0≤h) (g1:h≤255) (hq:mg h=true) (hh:(h==102)=(b&&(h==102))):aP Z9 142 ([aZ 1 (bD (pI b++ [h]))]) (.aL [nP (Qy (if h / 8%2=1 then 64 else cond b 16 32) (h%2*8)),ax false]):=by
 rcases cf (decide (h / 8%2=1)) with k|k<;>rw [wI k]<;>cases b<;>exact AN (fR tT _ h [] hh++eQ tT g0 g1 hq [] k++ [tT]) (by kernel_rfl)
theorem Kr (b:Bool) (h:Int) (g0:0≤h) (g1:h≤255) (hq:mg h=true) (hh:(h==102)=(b&&(h==102))) (d:Int) (v:List Int) (hv:dr v):aP Z9 142 ([aZ 1 (bD (pI b++h::15::d::v))]) (.aL [nP (dz (if h / 8%2=1 then 64 else cond b 16 32) (h / 4%2*8) (h%2*8) true d v),ax true]):=by
 rcases cf (decide (h / 8%2=1)) with k|k<;>rw [wI k]<;>cases b<;>rcases cf (uv v==0) with e|e<;>exact (AN (d:=AB (cond _ 64 _) (h / 4%2*8) (h%2*8) true d v _) (fR tT _ h (bD (15::d::v)) hh++eQ tT g0 g1 hq (bD (15::d::v)) k++tF::e1 tT hv e)).to (m9 hv e (by omega) (by omega))
theorem Kq (b:Bool) (h:Int) (g0:0≤h) (g1:h≤255) (hq:mg h=true) (hh:(h==102)=(b&&(h==102))) (c:Int) (v:List Int) (hv:dr v) (hc:c=15→v= []):aP Z9 142 ([aZ 1 (bD (pI b++h::c::v))]) (.aL [nP (dz (if h / 8%2=1 then 64 else cond b 16 32) (h / 4%2*8) (h%2*8) false c v),ax true]):=by
 rcases cf (c==15) with l|l
 · obtain rfl:=hc (eq_of_beq l)
   rcases cf (decide (h / 8%2=1)) with k|k<;>rw [wI k]<;>cases b<;>rcases cf (uv []==0) with e|e<;>exact (AN (d:=AB (cond _ 64 _) (h / 4%2*8) (h%2*8) false c [] _) (fR tT _ h (bD [c]) hh++eQ tT g0 g1 hq (bD [c]) k++tF::eC tF hv e l)).to (m9 hv e (by omega) (by omega))
 rcases cf (decide (h / 8%2=1)) with k|k<;>rw [wI k]<;>cases b<;>rcases cf (uv v==0) with e|e<;>exact (AN (d:=AB (cond _ 64 _) (h / 4%2*8) (h%2*8) false c v _) (fR tT _ h (bD (c::v)) hh++eQ tT g0 g1 hq (bD (c::v)) k++tF::eC tF hv e l)).to (m9 hv e (by omega) (by omega))
theorem Kj (b:List Int) (hb:dr b):∃x,aP Z9 142 [aZ 1 (bD b)] (.aL [nP x,ax (mh b).isSome])∧∀s,mh b=some s→x=s:=by
 have Cp:∀(b:Bool) (t:List Int),dr t→(hd t==102)=(b&&(hd t==102))→mh (pI b++t)=gX (cond b 16 32) t→
   ∃x,aP Z9 142 [aZ 1 (bD (pI b++t))] (.aL [nP x,ax (mh (pI b++t)).isSome])∧∀s,mh (pI b++t)=some s→x=s:=by
  intro b t ht hh hp
  rw [hp]
  have out:∀(x:aJ) (k:Bool),aP Z9 142 [aZ 1 (bD (pI b++t))] (.aL [nP x,ax k])→(k=false∧gX (cond b 16 32) t=none)∨(k=true∧gX (cond b 16 32) t=some x)→
    ∃x,aP Z9 142 [aZ 1 (bD (pI b++t))] (.aL [nP x,ax (gX (cond b 16 32) t).isSome])∧∀s,gX (cond b 16 32) t=some s→x=s:=by
   rintro x k h (⟨rfl,e⟩|⟨rfl,e⟩)
   ·exact ⟨x,by rw [e];exact h,fun s hs=>by rw [e] at hs;cases hs⟩
   ·exact ⟨x,by rw [e];exact h,fun s hs=>by rw [e] at hs;exact Option.some.inj hs⟩
  have code:∀(w R M c:Int) (v:List Int),(c=15→v= [])→hP w R M (c::v)=some (dz w R M false c v):=fun w R M c v h=>by
   by_cases hc:c=15
   ·obtain rfl:=h hc
    subst hc
    rfl
   ·exact eo hc
  match t,ht,hh with
  | [],_,_=>exact out _ _ (Km b) (.inl ⟨rfl,rfl⟩)
  |h::u,ht,hh=>
   obtain ⟨⟨g0,g1⟩,hu⟩:=fH.1 ht
   by_cases hq:mg h=true
   ·
    have e:gX (cond b 16 32) (h::u)=hP (if h / 8%2=1 then 64 else (cond b 16 32)) (h / 4%2*8) (h%2*8) u:=by simp only [gX,if_pos hq]
    match u,hu with
    | [],_=>exact out _ _ (Kp b h g0 g1 hq hh) (.inl ⟨rfl,by rw [e];rfl⟩)
    |c::v,hu=>
     obtain ⟨⟨k0,k1⟩,hv⟩:=fH.1 hu
     by_cases hc:c=15→v= []
     ·exact out _ _ (Kq b h g0 g1 hq hh c v hv hc) (.inr ⟨rfl,by rw [e,code _ _ _ _ _ hc]⟩)
     obtain ⟨rfl,hc⟩:=Classical.not_imp.1 hc
     match v,hv,hc with
     |d::v,hv,_=>exact out _ _ (Kr b h g0 g1 hq hh d v (fH.1 hv).2) (.inr ⟨rfl,by rw [e];rfl⟩)
   ·
    have XC:mg h=false:=by simpa using hq
    have e:gX (cond b 16 32) (h::u)=hP (cond b 16 32) 0 0 (h::u):=by simp only [gX,if_neg hq]
    by_cases hc:h=15→u= []
    ·exact out _ _ (Kn b h g0 g1 XC hh u hu hc) (.inr ⟨rfl,by rw [e,code _ _ _ _ _ hc]⟩)
    obtain ⟨rfl,hc⟩:=Classical.not_imp.1 hc
    match u,hu,hc with
    |d::v,hu,_=>exact out _ _ (Ko b d v (fH.1 hu).2) (.inr ⟨rfl,by rw [e];rfl⟩)
 by_cases h102:hd b=102
 ·match b,hb,h102 with
  |a::t,hb,h102=>
   have ha:a=102:=by simpa [hd] using h102
   subst ha
   exact Cp true t (fH.1 hb).2 (by simp) (if_pos (show hd (102::t)=102 from rfl))
  | [],_,h=>simp [hd] at h
 ·exact Cp false b hb (by simp [h102]) (if_neg h102)
end Go.Proofs.YtbfpahigdpigpaaGreat
