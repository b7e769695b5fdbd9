import Derived.Test.YtbfpahigdpigpaaGreatProg
import Derived.Test.YtbfpahigdpigpaaGreatV05
import Derived.Test.YtbfpahigdpigpaaGreatV06
import Derived.Test.YtbfpahigdpigpaaGreatV07
open BitVec renaming ofInt→Zw,toNat→Zz
open List renaming replicate→Zx,length→ZA,getD_eq_getElem?_getD→ZF,length_append→ZR,length_cons→ZZ,length_nil→Z5,length_set→aaz,append_nil→aaH,isPrefixOf_iff_prefix→aaN,mem_cons→aaR
open Go.Proofs.Tryz renaming prog→Zy
open Bool renaming and_eq_true→ZD,not_eq_true'→Z8,not_eq_false'→aai
open And renaming intro→ZI
open Int renaming toNat→ZJ,fdiv→aad,toNat_natCast→aaE
open Go renaming IntKind→aaY
/- Contracts and plain laws that a statement's proof leans on (texts merged:MdK1,MdK2,MdK3,MdK4,MdEm,MdW,MdF2,MdE,MdP,MdS,MdP3,MdEn,eW,EMA0,Az,XP0,XP1,XP1A). -/
set_option linter.unusedVariables false
set_option linter.unusedSimpArgs false
set_option maxRecDepth 100000
set_option maxHeartbeats 8000000
namespace Go.Ev
open Go
def kH.may (x:kH):Bool:=RA x.kind x.op x.width x.size x.fN x.ab x.ae x.off x.ai
def Td (l:List kH):List D:=l.map kH.d
def I9 (i kind off:Int):Bool:=(kind==3||kind==4)&&(decide (-1099511627776≤i∧i≤1099511627776)&&decide (-1099511627776≤off∧off≤1099511627776))
def FQ (i kind off:Int):Int:=if I9 i kind off=true then i+1+off else 0
def LC (n:Int):Int→List kH→Option (Int×Int)
  |_,[]=>none
  |i,x::r=>if x.may=false then some (i,31) else if I9 i x.kind x.off=true∧¬(0≤FQ i x.kind x.off∧FQ i x.kind x.off<n) then some (i,32) else LC n (i+1) r
def xS (l:List kH) (i:Nat):Int:=match l[i]? with|some x=>x.kind|none=>0
def RX (ctx:Int) (l:List kH):Int×Int:=
  if ctx<0∨256<ctx then (0,2) else if l.length<1∨64<l.length then (0,3)
  else match LC l.length 0 l with
    |some r=>r
    |none=>if xS l (l.length - 1)=4∨xS l (l.length - 1)=6 then (0,0) else (l.length - 1,33)
def Jl (k:Int):Bool:=k==3||k==4||k==6
def PZ (es:List (Int×D)) (k:Int) (x:kH):List (Int×D):=
  if I9 k x.kind x.off=true then nM (if Jl x.kind=true then nM es (k+1) (ax true) else es) (FQ k x.kind x.off) (ax true)
  else if Jl x.kind=true then nM es (k+1) (ax true) else es
def QP (l:List kH):Nat→List (Int×D)
  |0=> [(0,ax true)]
  |k+1=>match l[k]? with
    |some x=>PZ (QP l k) k x
    |none=>QP l k
def RY (l:List kH) (k:Nat) (i:Int):Bool:=match l[k]? with
  |some x=>(Jl x.kind&&i==(k:Int)+1)||(I9 k x.kind x.off&&i==FQ k x.kind x.off)
  |none=>false
def QO (l:List kH) (i:Int):Nat→Bool
  |0=>i==0
  |k+1=>QO l i k||RY l k i
def S5 (l:List kH) (i:Int):Bool:=QO l i l.length
structure Ti (l:List kH):Prop where
  pos:1≤l.length
  le:l.length≤64
  may:∀j (h:j<l.length),l[j].may=true
  S7:∀j (h:j<l.length),I9 j l[j].kind l[j].off=true→0≤FQ j l[j].kind l[j].off∧FQ j l[j].kind l[j].off<l.length
  last:xS l (l.length - 1)=4∨xS l (l.length - 1)=6
theorem EK {l:List D} {i:Nat} {x:D} (h:(i:Int)<(l.length:Int)):nY l i [x] (l.set i x):=by
 refine ⟨?_,by simp;omega⟩
 rw [List.set_eq_take_append_cons_drop,if_pos (by omega)]
 rfl
theorem bo (b:List Int):∀c∈bD b,c.clean=true:=by
 intro c hc
 obtain ⟨n,_,rfl⟩:=List.mem_map.1 hc
 rfl
theorem ca (b:List Int):(bD b).map D.bn=bD b:=by
 simp only [bD,List.map_map]
 rfl
theorem cL (b:List Int):(bD b).all isByte=true:=by
 rw [List.all_eq_true]
 intro c hc
 obtain ⟨n,_,rfl⟩:=List.mem_map.1 hc
 rfl
theorem eR:∀b:List Int,db (bD b)=some (bD b)
 | []=>rfl
 |a::b=>by
  have ih:=eR b
  unfold bD at ih ⊢
  rw [List.map_cons,db,ih]
  rfl
theorem l3 {n m:Nat} {c:D} {b:List D} (h:b.length=n) (hm:m=n):nY (Zx m c) 0 b b:=by
 subst h
 subst hm
 refine ⟨by simp,by simp⟩
theorem AM {l:List D} {n:Nat} (h:n=l.length):nZ l 0 n l:=by
 subst h
 exact ⟨by simp,by simp⟩
theorem Fs {l:List D} {i n:Nat} {l':List D} (h:nZ l i n l'):nZ l i n l':=h
theorem jz {n:Nat} :Nat.ble n (ZJ (n:Int))=true:=by rw [aaE,Nat.ble_eq];exact Nat.le_refl _
theorem PG {id len:Nat} {y n:Int} (n0:1≤n) (n8:n≤8) (hl:len≤16384) (a1:aaY.u64.wrap y≤len) (a2:n≤len - aaY.u64.wrap y):
  D.aL [.sub id (0+ZJ (aaY.u64.wrap y)*1) 1 (ZJ (aaY.i64.wrap (aaY.i64.wrap (aaY.u64.wrap y)+n)) - ZJ (aaY.u64.wrap y)) (some (ZJ (aaY.i64.wrap (aaY.i64.wrap (aaY.u64.wrap y)+n)) - ZJ (aaY.u64.wrap y))),ax true]=D.aL [.sub id (ZJ (aaY.u64.wrap y)) 1 n.toNat (some n.toNat),ax true]:=by
 have h0:0≤aaY.u64.wrap y:=by rw [bZ];omega
 have e1:0+ZJ (aaY.u64.wrap y)*1=ZJ (aaY.u64.wrap y):=by omega
 have e2:ZJ (aaY.i64.wrap (aaY.i64.wrap (aaY.u64.wrap y)+n)) - ZJ (aaY.u64.wrap y)=n.toNat:=by
  generalize aaY.u64.wrap y=z at*
  rw [aX,aX];omega
 rw [e1,e2]
def Bq (v b:Int):Int:=aaY.u64.wrap ((Zw 64 (aaY.u64.wrap (v*256))|||Zw 64 (aaY.u64.wrap b)).toNat:Int)
def P5:List Int→Int
  | []=>0
  |b::t=>Bq (P5 t) b
def FM (cs:List D) (k:Nat) (w:Int):Nat→List D
  |0=>cs
  |n+1=>(FM cs k w n).set (k+n*1) (.int .u8 (aaY.u8.wrap (w.fdiv (256^n))))
theorem El (cs:List D) (k:Nat) (w:Int):∀n,(FM cs k w n).length=cs.length
 |0=>rfl
 |n+1=>by rw [FM,aaz,El cs k w n]
theorem eZ:(∀ {α:Type} {a b:List α},(a++b).length=a.length+b.length)∧(∀ {α:Type} {x:α} {a:List α},(x::a).length=a.length+1)∧(∀ {α:Type},([]:List α).length=0)∧(∀ {α:Type} {a:List α} {i:Nat} {x:α},(a.set i x).length=a.length)∧(∀ {α:Type} {n:Nat} {x:α},(Zx n x).length=n)∧(∀n:Int,aaY.i8.wrap n=(n+128)%256 - 128)∧(∀n:Int,aaY.u8.wrap n=n%256)∧(∀n:Int,aaY.i64.wrap n=(n+9223372036854775808)%18446744073709551616 - 9223372036854775808)∧(∀n:Int,aaY.u64.wrap n=n%18446744073709551616)∧(∀ {p:Prop} [Decidable p],(decide p=true)=p)∧(∀ {p:Prop} [Decidable p],(decide p=false)↔ ¬p)∧(∀ {α:Type} [BEq α] [LawfulBEq α] {a b:α},(a==b)=true↔a=b)∧(∀ {α:Type} [BEq α] [LawfulBEq α] {a b:α},(a !=b)=true↔a≠b)∧(∀ {α:Type} [BEq α] [LawfulBEq α] {a b:α},(a==b)=false↔a≠b)∧(∀ {α:Type} [BEq α] [LawfulBEq α] {a b:α},(a !=b)=false↔a=b)∧(∀b:Bool,((!b)=true)=(b=false))∧(∀b:Bool,((!b)=false)=(b=true))∧(∀a b:Bool,((a&&b)=true)=(a=true∧b=true))∧(∀a b:Bool,((a||b)=true)=(a=true∨b=true))∧(∀p:Prop,(p∧True)=p)∧(∀p:Prop,(True∧p)=p)∧(∀ {α:Type} (a:α),(a=a)=True):=
 ⟨ZR,ZZ,Z5,aaz,List.length_replicate,dh,bw,aX,bZ,@bX,@cJ,@cF,@lO,@gp,@bne_eq_false_iff_eq,by intro b;cases b<;>simp,by intro b;cases b<;>simp,by intro a b;simp,by intro a b;simp,by intro p;simp,by intro p;simp,by intro α a;simp⟩
def Oy (op ab ae aa:Int):Int:=
  if op=0 then lV ae
  else if op=1∨op=28∨op=29 then 0
  else if 20≤op∧op≤22 then GY (lV ab) (lV 1)
  else if op=24 then GY (GY (lV ab) (lV 0)) (lV 2)
  else if op=26 then lV aa
  else if op=27 then GY (lV aa) (lV ae)
  else if op=30 then 17
  else if op=31 then 1477
  else if aC op=1∨aC op=2∨aC op=6 then GY (lV ab) (lV ae)
  else lV ab
def qQ (op ab:Int):Int:=
  if op=7∨op=8∨op=14∨op=15∨op=27∨op=28∨op=29 then 0
  else if op=24 then 5
  else if op=30 then 16
  else if op=31 then 2051
  else lV ab
def Q2 (op w ab ae aa af ai cc:Int):Int:=if bL op w ab ae aa af ai cc then Oy op ab ae aa else 0
def lA (op w ab ae aa af ai cc:Int):Int:=if bL op w ab ae aa af ai cc then qQ op ab else 0
def yA (w a b:Int):Bool:=decide (aJ (u64 (a+b)) w<aJ a w)
def yz (w a b:Int):Bool:=fL (qn (rJ a (u64 (a+b))) (rJ b (u64 (a+b)))) w
def rY (w a b:Int):Bool:=decide (aJ a w<aJ b w)
def rX (w a b:Int):Bool:=fL (qn (rJ a b) (rJ a (u64 (a - b)))) w
theorem wh (v:Int):aaY.u64.wrap (aaY.i64.wrap (aaY.i8.wrap v))=aaY.u64.wrap (aaY.i8.wrap v):=by rw [bZ,bZ,aX,dh];omega
theorem wg (v:Int):aaY.u64.wrap (aaY.i64.wrap (aaY.i16.wrap v))=aaY.u64.wrap (aaY.i16.wrap v):=by rw [bZ,bZ,aX,PX];omega
theorem we (v:Int):aaY.u64.wrap (aaY.i64.wrap (aaY.i32.wrap v))=aaY.u64.wrap (aaY.i32.wrap v):=by rw [bZ,bZ,aX,nS];omega
def eC (cc:Int) (c z s o:Bool):Bool:=
  if cc=2 then c else if cc=3 then !c else if cc=4 then z else if cc=5 then !z else if cc=6 then (c||z) else if cc=7 then !(c||z)
  else if cc=12 then (s !=o) else if cc=13 then !(s !=o) else if cc=14 then (z||(s !=o)) else !(z||(s !=o))
def Mc (op:Int):Bool:= !(decide (op=7∨op=8∨op=14∨op=15∨op=27∨op=28∨op=29))
theorem Ml {d:Int} (h0:0≤d) (h1:d≤15):lV d≠0:=by
 obtain ⟨n,rfl⟩:=iP h0 h1
 clear h0 h1
 revert n
 decide+kernel
theorem jt {op w ab ae aa af ai cc:Int} (hm:bL op w ab ae aa af ai cc=true) (d0:0≤ab) (d1:ab≤15) (Uy:Mc op=true):(lA op w ab ae aa af ai cc==0)=false:=by
 rw [gp]
 unfold lA
 rw [if_pos hm]
 unfold qQ
 simp only [Mc,Z8,cJ] at Uy
 rw [if_neg Uy]
 split
 ·decide
 ·split
  ·decide
  ·split
   ·decide
   ·exact Ml d0 d1
theorem Mb {op w ab ae aa af ai cc:Int} (Uy:Mc op=false):(lA op w ab ae aa af ai cc==0)=true:=by
 rw [cF]
 unfold lA qQ
 simp only [Mc,aai,bX] at Uy
 rw [if_pos Uy]
 split<;>rfl
theorem Rc (a:Int):a.fdiv 8=a / 8:=Int.fdiv_eq_ediv_of_nonneg _ (by decide)
def Tf (n:Int):Prop:=0≤n∧n≤18446744073709551615
theorem mh (v w:Int):aJ (aJ v w) w=aJ v w:=by
 unfold aJ
 split
 ·omega
 ·split
  ·omega
  ·split
   ·omega
   ·rfl
def Sz (w k:Int):Int:=aaY.i64.wrap ((Zw 64 (w.fdiv (2^(min k.toNat 64)))&&&Zw 64 1).toNat:Int)
def SR (w ab ae:Int):Bool:=aP w&&ba ab&&ba ae
theorem bH {sh w ab ae aa af ai cc:Int} (h:iK sh w ab ae aa af ai cc=true) (hs:sh=1∨sh=2∨sh=3∨sh=4∨sh=5∨sh=6):aP w=true:=by
 rcases hs with rfl|rfl|rfl|rfl|rfl|rfl<;>simp [iK] at h<;>first|exact h.1|exact h.1.1|exact h
theorem xP {w ab ae aa af ai cc:Int} (h:iK 6 w ab ae aa af ai cc=true):cT cc=true:=by
 simp [iK] at h;exact h.2
theorem rj {w ab ae aa af ai cc:Int} (h:iK 10 w ab ae aa af ai cc=true):cT cc=true:=by
 simp [iK] at h;exact h.2
structure au where
  (q0 q1 q2 q3 q4 q5 q6 q7 q8 q9 de dr dw du dt dn:Int)
  (fk fc fz fs fo:Bool)
  (pc:Int)
deriving DecidableEq
def au.d (m:au):D:= .agg [av m.q0,av m.q1,av m.q2,av m.q3,av m.q4,av m.q5,av m.q6,av m.q7,av m.q8,av m.q9,av m.de,av m.dr,av m.dw,av m.du,av m.dt,av m.dn,ax m.fk,ax m.fc,ax m.fz,ax m.fs,ax m.fo,av m.pc]
def au.rl (m:au):List Int:= [m.q0,m.q1,m.q2,m.q3,m.q4,m.q5,m.q6,m.q7,m.q8,m.q9,m.de,m.dr,m.dw,m.du,m.dt,m.dn]
def au.put (m:au) (i v:Int):au:=⟨st 0 i v m.q0,st 1 i v m.q1,st 2 i v m.q2,st 3 i v m.q3,st 4 i v m.q4,st 5 i v m.q5,st 6 i v m.q6,st 7 i v m.q7,st 8 i v m.q8,st 9 i v m.q9,st 10 i v m.de,st 11 i v m.dr,st 12 i v m.dw,st 13 i v m.du,st 14 i v m.dt,st 15 i v m.dn,m.fk,m.fc,m.fz,m.fs,m.fo,m.pc⟩
def au.flags (m:au) (k c z s o:Bool):au:=⟨m.q0,m.q1,m.q2,m.q3,m.q4,m.q5,m.q6,m.q7,m.q8,m.q9,m.de,m.dr,m.dw,m.du,m.dt,m.dn,k,c,z,s,o,m.pc⟩
def au.at (m:au) (v:Int):au:=⟨m.q0,m.q1,m.q2,m.q3,m.q4,m.q5,m.q6,m.q7,m.q8,m.q9,m.de,m.dr,m.dw,m.du,m.dt,m.dn,m.fk,m.fc,m.fz,m.fs,m.fo,v⟩
def au.zero:au:=⟨0,0,0,0,0,0,0,0,0,0,0,0,0,0,0,0,false,false,false,false,false,0⟩
def XS.len (x:XS):Int:=ct x.op x.w x.ab x.ae x.aa x.af x.ai x.cc
def XS.may (x:XS):Bool:=bL x.op x.w x.ab x.ae x.aa x.af x.ai x.cc
def Rg (op:Int):Option (Int×Int):=
  match op with
  |2=>some (0,0)
  |3=>some (4,0)
  |4=>some (5,0)
  |5=>some (1,0)
  |6=>some (10,0)
  |7=>some (1,0)
  |8=>some (5,0)
  |9=>some (0,1)
  |10=>some (4,1)
  |11=>some (5,1)
  |12=>some (1,1)
  |13=>some (10,1)
  |14=>some (1,1)
  |15=>some (5,1)
  |16=>some (2,0)
  |17=>some (6,1)
  |18=>some (7,1)
  |19=>some (12,1)
  |20=>some (6,2)
  |21=>some (7,2)
  |22=>some (12,2)
  |23=>some (8,0)
  |_=>none
def Rl (m:au) (x:XS) (k:Int):Int:=match k with
  |2=>m.q1
  |1=>u64 x.ai
  |_=>rg m.rl x.ae
def Fu (m:au) (s w a b v:Int):au:=match s with
  |0=>m.flags true (yA w a b) (aJ (u64 (a+b)) w==0) (fL (u64 (a+b)) w) (yz w a b)
  |1=>m.flags true (rY w a b) (aJ (u64 (a - b)) w==0) (fL (u64 (a - b)) w) (rX w a b)
  |8=>m.flags true (rY w 0 a) (aJ (u64 (0 - a)) w==0) (fL (u64 (0 - a)) w) (rX w 0 a)
  |4=>m.flags true false (aJ v w==0) (fL v w) false
  |5=>m.flags true false (aJ v w==0) (fL v w) false
  |10=>m.flags true false (aJ v w==0) (fL v w) false
  |_=>m.flags false false false false false
def Po (op:Int):Bool:=match op with
  |7=>true
  |8=>true
  |14=>true
  |15=>true
  |_=>false
def gF (m:au) (x:XS) (ld:Int):au×Int:=match Rg x.op with
  |some (s,k)=>
    let a:=rg m.rl x.ab
    let b:=Rl m x k
    let v:=fB s x.w a b
    match Po x.op with
    |true=>(Fu m s x.w a b v,0)
    |false=>((Fu m s x.w a b v).put x.ab v,0)
  |none=>match x.op with
    |0=>(m.put x.ab (aJ (rg m.rl x.ae) x.w),0)
    |1=>(m.put x.ab (aJ (u64 x.ai) x.w),0)
    |24=>match aJ (rg m.rl x.ab) x.w==0 with
      |true=>(.zero,20)
      |false=>match aJ m.q2 x.w==0 with
        |false=>(.zero,20)
        |true=>(({ m with q0:=u64 ((aJ m.q0 x.w).tdiv (aJ (rg m.rl x.ab) x.w)),q2:=(aJ m.q0 x.w).tmod (aJ (rg m.rl x.ab) x.w) }).flags false false false false false,0)
    |25=>match m.fk with
      |false=>(.zero,20)
      |true=>(m.put x.ab (aJ (if eC x.cc m.fc m.fz m.fs m.fo then rg m.rl x.ae else rg m.rl x.ab) x.w),0)
    |26=>(m.put x.ab (aJ ld x.w),0)
    |28=>(m.at (u64 (m.pc+u64 x.ai)),0)
    |29=>match m.fk with
      |false=>(.zero,20)
      |true=>(m.at (if eC x.cc m.fc m.fz m.fs m.fo then u64 (m.pc+u64 x.ai) else m.pc),0)
    |30=>(({ m with q4:=u64 (m.q4+8) }).at ld,0)
    |31=>({ m with q0:=ld,q1:=0,dr:=0 },0)
    |_=>(m,0)
def fm (m:au) (x:XS) (ld:Int):au×Int:=match x.may with
  |false=>(.zero,2)
  |true=>gF (m.at (u64 (m.pc+u64 x.len))) x ld
def Sq (m:au) (x:XS) (ld:Int):au:=(fm m x ld).1
def Sr (m:au) (x:XS) (ld:Int):Int:=(fm m x ld).2
theorem A3 {m:au} {x:XS} {ld:Int} (h:x.may=false):fm m x ld=(.zero,2):=by unfold fm;rw [h]
theorem qi {m:au} {x:XS} {ld:Int} (h:x.may=true):fm m x ld=gF (m.at (u64 (m.pc+u64 x.len))) x ld:=by unfold fm;rw [h]
def dp (m:au) (op w ab ae aa af ai cc:Int):Int:=u64 (m.pc+u64 (ct op w ab ae aa af ai cc))
def xT (op w ab ae aa af ai cc ld:Int):List D:= [ak op,ak w,ak ab,ak ae,ak aa,aq af,aq ai,ak cc,av ld]
def fT (m:au) (p:Int) (tl:List D):List D:= .bool m.fk::ax m.fc::ax m.fz::ax m.fs::ax m.fo::av p::tl
def zC:List D:= [av 0,av 0,av 0,av 0,av 0,av 0,av 0,av 0,av 0,av 0,av 0,av 0,av 0,av 0,av 0,av 0,ax false,ax false,ax false,ax false,ax false,av 0]
def au.cw (m:au) (p:Int) (tl:List D):List D:= .int .u64 m.q0::av m.q1::av m.q2::av m.q3::av m.q4::av m.q5::av m.q6::av m.q7::av m.q8::av m.q9::av m.de::av m.dr::av m.dw::av m.du::av m.dt::av m.dn::ax m.fk::ax m.fc::ax m.fz::ax m.fs::ax m.fo::av p::tl
theorem bl (m:au) (i:Int) (tl:List D) (h0:0≤i) (h1:i≤15):(D.int .u64 m.q0::D.int .u64 m.q1::D.int .u64 m.q2::D.int .u64 m.q3::D.int .u64 m.q4::D.int .u64 m.q5::D.int .u64 m.q6::D.int .u64 m.q7::D.int .u64 m.q8::D.int .u64 m.q9::D.int .u64 m.de::D.int .u64 m.dr::D.int .u64 m.dw::D.int .u64 m.du::D.int .u64 m.dt::D.int .u64 m.dn::tl:List D)[0+i.toNat*1]? =some (av (rg m.rl i)):=jm h0 h1
theorem bV (m:au) (i v:Int) (tl:List D) (h0:0≤i) (h1:i≤15):nY (D.int .u64 m.q0::D.int .u64 m.q1::D.int .u64 m.q2::D.int .u64 m.q3::D.int .u64 m.q4::D.int .u64 m.q5::D.int .u64 m.q6::D.int .u64 m.q7::D.int .u64 m.q8::D.int .u64 m.q9::D.int .u64 m.de::D.int .u64 m.dr::D.int .u64 m.dw::D.int .u64 m.du::D.int .u64 m.dt::D.int .u64 m.dn::tl:List D) (0+i.toNat*1) [D.int .u64 v] (D.int .u64 (m.put i v).q0::D.int .u64 (m.put i v).q1::D.int .u64 (m.put i v).q2::D.int .u64 (m.put i v).q3::D.int .u64 (m.put i v).q4::D.int .u64 (m.put i v).q5::D.int .u64 (m.put i v).q6::D.int .u64 (m.put i v).q7::D.int .u64 (m.put i v).q8::D.int .u64 (m.put i v).q9::D.int .u64 (m.put i v).de::D.int .u64 (m.put i v).dr::D.int .u64 (m.put i v).dw::D.int .u64 (m.put i v).du::D.int .u64 (m.put i v).dt::D.int .u64 (m.put i v).dn::tl):=pf h0 h1
def SB (m:au) (x:XS):Int×Int×Bool:=
  if x.may=true∧(x.op=26∨x.op=27) then (u64 (rg m.rl x.aa+u64 x.af),x.w / 8,true)
  else if x.may=true∧x.op=30 then (m.q4,8,true)
  else (0,0,false)
def QY (m:au) (x:XS):Int:=if x.may=true∧x.op=27 then aJ (rg m.rl x.ae) x.w else 0
def SP (m:au):Int×Bool:=if 16≤m.q0 then (0,false) else (aaY.i64.wrap m.q0,true)
def kL (q:Int):Int:=if 16≤q then 0 else aaY.i64.wrap q
def qO (q:Int):Bool:= !decide (16≤q)
theorem O4 {q:Int} (h:16≤q):qO q=false:=by unfold qO;simp;omega
theorem xK {q:Int} (h:decide (q<16)=true):wk (.aL [aq (aaY.i64.wrap q),ax true]) (.aL [aq (kL q),ax (qO q)]):=by
 rw [bX] at h
 have e:kL q=aaY.i64.wrap q:=by unfold kL;rw [if_neg (by omega)]
 have f:qO q=true:=by unfold qO;simp;omega
 rw [e,f];simp [wk,a7]
theorem xL {q:Int} (h:decide (q<16)=false):wk (.aL [aq 0,ax false]) (.aL [aq (kL q),ax (qO q)]):=by
 rw [cJ] at h
 have e:kL q=0:=by unfold kL;rw [if_pos (by omega)]
 have f:qO q=false:=O4 (by omega)
 rw [e,f];simp [wk,a7]
def SA (m:au):List Int:=if 16≤m.q0 then [] else [m.q7,m.q6,m.q2,m.de,m.q8].take (m.q0.toNat%6)
def wD (l:List Int):List D:=l.map (fun x=> .int .u64 x)
def R2 (cc:Int):Int×Bool:=
  if cc=0 then (4,true) else if cc=1 then (5,true) else if cc=2 then (7,true) else if cc=3 then (3,true) else if cc=4 then (2,true) else if cc=5 then (6,true)
  else if cc=6 then (15,true) else if cc=7 then (13,true) else if cc=8 then (12,true) else if cc=9 then (14,true) else if cc=10 then (5,true) else (0,false)
def S3 (cc:Int):Int×Bool:=
  if cc=4 then (0,true) else if cc=5 then (1,true) else if cc=7 then (2,true) else if cc=3 then (3,true) else if cc=2 then (4,true) else if cc=6 then (5,true)
  else if cc=15 then (6,true) else if cc=13 then (7,true) else if cc=12 then (8,true) else if cc=14 then (9,true) else (0,false)
theorem a9:type_of%(ZI @bL.eq_1 (ZI @ba.eq_1 (ZI @iK.eq_1 (ZI @aP.eq_1 (ZI @aU.eq_1 (ZI @mC.eq_1 (@cT.eq_1))))))):=ZI @bL.eq_1 (ZI @ba.eq_1 (ZI @iK.eq_1 (ZI @aP.eq_1 (ZI @aU.eq_1 (ZI @mC.eq_1 (@cT.eq_1))))))
def mF (x:XS):D:=xD x.op x.w x.ab x.ae x.aa x.af x.ai x.cc
def nW (x:XS):Bool:=bL x.op x.w x.ab x.ae x.aa x.af x.ai x.cc
def cW (x:XS):List Int:=aD x.op x.w x.ab x.ae x.aa x.af x.ai x.cc
theorem kO:∀n:Fin 32,1≤aC (n.val:Int)∧aC (n.val:Int)≤11:=by decide+kernel
theorem BD {k:Int} (k0:0≤k) (k1:k≤31):aC k=1∨aC k=2∨aC k=3∨aC k=4∨aC k=5∨aC k=6∨aC k=7∨aC k=8∨aC k=9∨aC k=10∨aC k=11:=by
 have:=kO ⟨k.toNat,by omega⟩
 have e:((⟨k.toNat,by omega⟩:Fin 32).val:Int)=k:=by simp;omega
 rw [e] at this
 omega
theorem PV {k:Int} (k0:0≤k) (k1:k≤31):aaY.i8.wrap k=k:=by rw [dh];omega
theorem GD {b:List Int} (hb:dx b) {s:aK} (h:lJ b=some s):0≤s.code∧s.code≤255∧(s.high=0∨s.high=8):=by
 have code:∀ {w R M:Int} {u:List Int},dx u→(M=0∨M=8)→iw w R M u=some s→0≤s.code∧s.code≤255∧(s.high=0∨s.high=8):=by
  intro w R M u hu hM h
  match u,hu with
  | [],_=>cases h
  |c::v,hu=>
   obtain ⟨⟨c0,c1⟩,hv⟩:=fM.1 hu
   by_cases hc:c=15
   ·subst hc
    match v,hv,h with
    | [],_,h=>rw [show iw w R M [15]=some (bB w R M false 15 []) from rfl] at h;cases h;exact ⟨by simp [bB],by simp [bB],hM⟩
    |d::z,hv,h=>rw [iW] at h;cases h;exact ⟨(hv d (by simp)).1,(hv d (by simp)).2,hM⟩
   ·rw [dL hc] at h;cases h;exact ⟨c0,c1,hM⟩
 have B9:∀ {w:Int} {u:List Int},dx u→hQ w u=some s→0≤s.code∧s.code≤255∧(s.high=0∨s.high=8):=by
  intro w u hu h
  match u,hu with
  | [],_=>cases h
  |c::v,hu=>
   by_cases hq:kJ c=true
   ·simp only [hQ,if_pos hq] at h
    exact code (fM.1 hu).2 (by omega) h
   ·simp only [hQ,if_neg hq] at h
    exact code hu (.inl rfl) h
 unfold lJ at h
 split at h
 ·exact B9 (fun x hx=>hb x (List.mem_of_mem_drop hx)) h
 ·exact B9 hb h
def jo (b:List Int) (x:XS):Bool:=nW x&&(cW x).isPrefixOf b
def gj (b:List Int) (s:aK):List Int→Option XS
  | []=>none
  |k::r=>if jo b (fS s k) then some (fS s k) else gj b s r
def iC (b:List Int):Option XS:=if jo b (jK b) then some (jK b) else none
theorem nK {b:List Int} {x:XS} (h:jo b x=true):jK b=x∧∃s,lJ b=some s∧fS s x.op=x:=by
 unfold jo at h
 rw [ZD,aaN] at h
 obtain ⟨hm,t,rfl⟩:=h
 exact ⟨Ba hm t,Kd hm t⟩
theorem tq {b:List Int} {s:aK} {x:XS} :∀ {l:List Int},gj b s l=some x→jo b x=true
 | [],h=>by cases h
 |k::r,h=>by
  unfold gj at h
  split at h
  ·rename_i hf;cases h;exact hf
  ·exact tq h
theorem tu {b:List Int} {s:aK} :∀ {l:List Int},gj b s l=none→∀k∈l,jo b (fS s k)=false
 | [],_,k,hk=>by cases hk
 |a::r,h,k,hk=>by
  unfold gj at h
  split at h
  ·cases h
  ·rename_i hf
   rcases aaR.1 hk with rfl|hk
   ·simpa using hf
   ·exact tu h k hk
theorem KO {x:XS} (h:nW x=true):x.op∈ic:=by
 have hs:=(dA h).2
 have U3:aC x.op≠0:=by intro e;rw [e] at hs;simp [iK] at hs
 have:=gY U3
 unfold ic
 simp only [aaR,List.not_mem_nil,or_false]
 exact this
theorem CZ {b:List Int} {s:aK} (hs:lJ b=some s):gj b s ic=iC b:=by
 unfold iC
 cases h:gj b s ic with
 |some x=>
  have hf:=tq h
  rw [(nK hf).1,if_pos hf]
 |none=>
  split
  ·rename_i hf
   obtain ⟨_,s',hs',ha⟩:=nK hf
   rw [hs] at hs'
   obtain rfl:=Option.some.inj hs'
   have Uy:=KO (by unfold jo at hf;rw [ZD] at hf;exact hf.1)
   have:=tu h _ Uy
   rw [ha,hf] at this
   cases this
  ·rfl
theorem Gs {b:List Int} (hs:lJ b=none):iC b=none:=by
 unfold iC
 split
 ·rename_i hf
  obtain ⟨_,s',hs',_⟩:=nK hf
  rw [hs] at hs'
  cases hs'
 ·rfl
theorem Ee (l:List Int):(bD l).all isByte=true:=by simp [bD,isByte]
theorem kh (l:List Int) (n:Nat):((bD l).take n).all isByte=true:=by
 rw [show (bD l).take n=bD (l.take n) by simp [bD,List.map_take]]
 exact Ee _
def jS:List D:= [ak 1,ay 137,ak 0,ak 3,ay 199,ak 0,ak 1,ay 1,ak 0,ak 1,ay 9,ak 0,ak 1,ay 33,ak 0,ak 1,ay 41,ak 0,ak 1,ay 49,ak 0,ak 1,ay 57,ak 0,ak 1,ay 133,ak 0,ak 3,ay 129,ak 0,ak 3,ay 129,ak 1,ak 3,ay 129,ak 4,ak 3,ay 129,ak 5,ak 3,ay 129,ak 6,ak 3,ay 129,ak 7,ak 3,ay 247,ak 0,ak 2,ay 175,ak 0,ak 4,ay 193,ak 4,ak 4,ay 193,ak 5,ak 4,ay 193,ak 7,ak 5,ay 211,ak 4,ak 5,ay 211,ak 5,ak 5,ay 211,ak 7,ak 5,ay 247,ak 3,ak 5,ay 247,ak 6,ak 6,ay 64,ak 0,ak 7,ay 139,ak 0,ak 8,ay 137,ak 0,ak 9,ay 233,ak 0,ak 10,ay 128,ak 0,ak 11,ay 195,ak 0,ak 11,ay 5,ak 0]
theorem HR (n:Nat) (hn:n<32):(jS.drop (n*3)).take 3= [D.int .i8 (aC (n:Int)),D.int .u8 (bh (n:Int)),D.int .i8 (bO (n:Int))]:=by
 have:n=0∨n=1∨n=2∨n=3∨n=4∨n=5∨n=6∨n=7∨n=8∨n=9∨n=10∨n=11∨n=12∨n=13∨n=14∨n=15∨n=16∨n=17∨n=18∨n=19∨n=20∨n=21∨n=22∨n=23∨n=24∨n=25∨n=26∨n=27∨n=28∨n=29∨n=30∨n=31:=by omega
 rcases this with rfl|rfl|rfl|rfl|rfl|rfl|rfl|rfl|rfl|rfl|rfl|rfl|rfl|rfl|rfl|rfl|rfl|rfl|rfl|rfl|rfl|rfl|rfl|rfl|rfl|rfl|rfl|rfl|rfl|rfl|rfl|rfl<;>rfl
theorem pB {k:Int} (k0:0≤k) (k1:k≤31):nZ jS (k.toNat*3) 3 [D.int .i8 (aC k),D.int .u8 (bh k),D.int .i8 (bO k)]:=by
 have h:=HR k.toNat (by omega)
 have e:(k.toNat:Int)=k:=by omega
 rw [e] at h
 refine ⟨h,?_⟩
 have hl:jS.length=96:=rfl
 rw [hl]
 omega
theorem LZ {l:List Int} (h:lq l):dx l:=by
 intro x hx
 exact h x hx
theorem qI {x:XS} (h:nW x=true):dx (cW x):=LZ (yr h)
theorem Nq {own b:List Int} (ho:dx own) (hb:dx b):(own.isPrefixOf b=true↔((bD own).length:Int)≤((bD b).length:Int)∧((iG (bD own)).toList==(iG (List.take (ZJ ((ZA (bD own):Nat):Int)) (bD b))).toList)=true):=by
 rw [aaN,List.prefix_iff_eq_take,aG,aG,aaE,show (bD b).take own.length=bD (b.take own.length) by simp [bD,List.map_take],cF]
 constructor
 ·intro h
  refine ⟨?_,by rw [← h]⟩
  have:=congrArg ZA h
  rw [List.length_take] at this
  omega
 ·rintro ⟨_,h2⟩
  exact LP ho (fun x hx=>hb x (List.mem_of_mem_take hx)) h2
theorem Ar {n:Nat} (hn:n<32):ic.drop n=(n:Int)::ic.drop (n+1):=by
 have:n=0∨n=1∨n=2∨n=3∨n=4∨n=5∨n=6∨n=7∨n=8∨n=9∨n=10∨n=11∨n=12∨n=13∨n=14∨n=15∨n=16∨n=17∨n=18∨n=19∨n=20∨n=21∨n=22∨n=23∨n=24∨n=25∨n=26∨n=27∨n=28∨n=29∨n=30∨n=31:=by omega
 rcases this with rfl|rfl|rfl|rfl|rfl|rfl|rfl|rfl|rfl|rfl|rfl|rfl|rfl|rfl|rfl|rfl|rfl|rfl|rfl|rfl|rfl|rfl|rfl|rfl|rfl|rfl|rfl|rfl|rfl|rfl|rfl|rfl<;>rfl
theorem PH (s:aK) (k:Int):(fS s k).op=k:=by
 simp only [fS,ng,apply_ite XS.op,ite_self]
def EF:Option XS→D
  |none=> .aL [xD 0 0 0 0 0 0 0 0,.int .i64 0,.int .i64 30]
  |some x=> .aL [mF x,.int .i64 (cW x).length,.int .i64 0]
structure Oi where
  num:Int
  args:List Int
  S6:Int
def Oi.d (e:Oi):D:= .agg [aq e.num,bj 1 (wD e.args),av e.S6]
def iq (l:List Oi):List D:=l.map Oi.d
structure mu where
  m:au
  cx:List Int
  fr:List Int
  st:List Int
  an:List Int
  tr:List Oi
  en:Int
def je (aa:Int) (len:Nat) (a n:Int):Bool:=decide (aa≤a∧aaY.u64.wrap (a - aa)≤(len:Int)∧n≤(len:Int) - aaY.u64.wrap (a - aa))
def mG (aa a:Int):Nat:=(aaY.u64.wrap (a - aa)).toNat
theorem N6 {aa a n:Int} {len:Nat} (h:je aa len a n=true):aa≤a∧aaY.u64.wrap (a - aa)≤(len:Int)∧n≤(len:Int) - aaY.u64.wrap (a - aa):=of_decide_eq_true h
theorem Qt {aa a n:Int} {len:Nat} (h:je aa len a n=false):a<aa∨(len:Int)<aaY.u64.wrap (a - aa)∨(len:Int) - aaY.u64.wrap (a - aa)<n:=by
 have:=of_decide_eq_false h
 omega
theorem of_le {aa a n:Int} {len:Nat} (h:je aa len a n=true) (hn:0≤n):mG aa a+n.toNat≤len:=by
 have:=N6 h
 have h0:0≤aaY.u64.wrap (a - aa):=by rw [bZ];omega
 unfold mG
 omega
def L2 (l:List Int) (k n:Nat):Int:=P5 ((l.drop k).take n)
def FN (l:List Int) (k:Nat) (w:Int):Nat→List Int
  |0=>l
  |n+1=>(FN l k w n).set (k+n*1) (aaY.u8.wrap (w.fdiv (256^n)))
theorem oI (l:List Int) (k:Nat) (w:Int):∀n,(FN l k w n).length=l.length
 |0=>rfl
 |n+1=>by rw [FN,aaz,oI l k w n]
theorem v8 (l:List Int) (k:Nat) (w:Int):∀n,FM (bD l) k w n=bD (FN l k w n)
 |0=>rfl
 |n+1=>by
  rw [FM,v8 l k w n,FN]
  simp [bD,List.map_set]
theorem FG {l:List Int} {k:Nat} (j:Nat) (h:k+j<l.length):(bD l)[k+j*1]? =some (ay (l.getD (k+j) 0)):=by
 rw [Nat.mul_one]
 simp [bD,h,ZF]
theorem oM:∀(n k:Nat) (l:List Int),k+n≤l.length→(l.drop k).take n=(List.range n).map fun j=>l.getD (k+j) 0
 |0,k,l,_=>by simp
 |n+1,k,l,h=>by
  rw [List.range_succ,List.map_append,← oM n k l (by omega),List.take_add_one]
  have:(l.drop k)[n]? =some (l.getD (k+n) 0):=by
   rw [List.getElem?_drop,ZF,List.getElem?_eq_getElem (by omega)]
   rfl
  rw [this]
  rfl
def jW (cb cx fr st:List Int) (a n:Int):Option Int:=
  if je 1048576 cb.length a n=true then some (L2 cb (mG 1048576 a) n.toNat)
  else if je 2097152 cx.length a n=true then some (L2 cx (mG 2097152 a) n.toNat)
  else if je 3145728 64 a n=true then some (L2 fr (mG 3145728 a) n.toNat)
  else if je 4194304 264 a n=true then some (L2 st (mG 4194304 a) n.toNat)
  else none
def iH (cx fr st:List Int) (a n w:Int):Option (List Int×List Int×List Int):=
  if je 2097152 cx.length a n=true then some (FN cx (mG 2097152 a) w n.toNat,fr,st)
  else if je 3145728 64 a n=true then some (cx,FN fr (mG 3145728 a) w n.toNat,st)
  else if je 4194304 264 a n=true then some (cx,fr,FN st (mG 4194304 a) w n.toNat)
  else none
theorem Bz {cx fr st:List Int} {a n w:Int} {r:List Int×List Int×List Int} (h:iH cx fr st a n w=some r):r.1.length=cx.length∧r.2.1.length=fr.length∧r.2.2.length=st.length:=by
 unfold iH at h
 split at h
 ·cases h;exact ⟨oI _ _ _ _,rfl,rfl⟩
 split at h
 ·cases h;exact ⟨rfl,oI _ _ _ _,rfl⟩
 split at h
 ·cases h;exact ⟨rfl,rfl,oI _ _ _ _⟩
 ·cases h
def nh (v:Int):Nat:=if 0≤v∧v≤15 then v.toNat%6 else 0
theorem FI (v:Int):nh v≤5:=by unfold nh;split<;>omega
def pL (m:au) (n:Nat):List Int:= [m.q7,m.q6,m.q2,m.de,m.q8].take n
def bF (cb:List Int) (e:mu):mu×Bool:=
  if je 1048576 cb.length e.m.pc 1=true then
    match iC (cb.drop (mG 1048576 e.m.pc)) with
    |none=>({ e with en:=3 },false)
    |some x=>
      if x.op=31 then
        if qO e.m.q0=true then
          match e.an with
          | []=>({ e with en:=2 },false)
          |a::r=>({ e with m:=(fm e.m x a).1,an:=r,tr:=e.tr++ [⟨kL e.m.q0,pL e.m (nh (kL e.m.q0)),a⟩],en:=0 },true)
        else ({ e with en:=3 },false)
      else if x.op=27 then
        match iH e.cx e.fr e.st (u64 (rg e.m.rl x.aa+u64 x.af)) (x.w / 8) (aJ (rg e.m.rl x.ae) x.w) with
        |none=>({ e with en:=3 },false)
        |some r=>({ e with m:=(fm e.m x 0).1,cx:=r.1,fr:=r.2.1,st:=r.2.2,en:=0 },true)
      else if x.op=26 then
        match jW cb e.cx e.fr e.st (u64 (rg e.m.rl x.aa+u64 x.af)) (x.w / 8) with
        |none=>({ e with en:=3 },false)
        |some v=>({ e with m:=(fm e.m x v).1,en:=0 },true)
      else if x.op=30 then
        match jW cb e.cx e.fr e.st e.m.q4 8 with
        |none=>({ e with en:=3 },false)
        |some v=>if v=0 then ({ e with m:=(fm e.m x v).1,en:=1 },false) else ({ e with m:=(fm e.m x v).1,en:=0 },true)
      else if (fm e.m x 0).2=0 then ({ e with m:=(fm e.m x 0).1,en:=0 },true)
      else ({ e with en:=3 },false)
  else ({ e with en:=3 },false)
structure QW (e e2:mu):Prop where
  cx:e2.cx.length=e.cx.length
  fr:e2.fr.length=e.fr.length
  st:e2.st.length=e.st.length
  tr:∃t,e2.tr=e.tr++t∧t.length≤1
theorem qR (cb:List Int) (e:mu):QW e (bF cb e).1:=by
 have z:∀e2:mu,e2.cx=e.cx→e2.fr=e.fr→e2.st=e.st→e2.tr=e.tr→QW e e2:=fun e2 h1 h2 h3 h4=>⟨by rw [h1],by rw [h2],by rw [h3],[],by rw [h4,aaH],by simp⟩
 unfold bF
 split
 ·split
  ·exact z _ rfl rfl rfl rfl
  ·split
   ·split
    ·split
     ·exact z _ rfl rfl rfl rfl
     ·exact ⟨rfl,rfl,rfl,_,rfl,Nat.le_refl _⟩
    ·exact z _ rfl rfl rfl rfl
   ·split
    ·split
     ·exact z _ rfl rfl rfl rfl
     ·rename_i r hr
      obtain ⟨h1,h2,h3⟩:=Bz hr
      exact ⟨h1,h2,h3,[],by rw [aaH],by simp⟩
    ·split
     ·split<;>exact z _ rfl rfl rfl rfl
     ·split
      ·split
       ·exact z _ rfl rfl rfl rfl
       ·split<;>exact z _ rfl rfl rfl rfl
      ·split<;>exact z _ rfl rfl rfl rfl
 ·exact z _ rfl rfl rfl rfl
theorem wc (cb:List Int) (e:mu):((bF cb e).2=true→(bF cb e).1.en=0)∧((bF cb e).2=false→(bF cb e).1.en≠0):=by
 unfold bF
 repeat' split
 all_goals (constructor<;>intro h<;>first|rfl|(cases h;done)|decide|(show (3:Int)≠0;decide)|(show (2:Int)≠0;decide)|(show (1:Int)≠0;decide))
def ko (cb:List Int):Nat→mu→mu×Nat
  |0,e=>(e,0)
  |f+1,e=>match bF cb e with
    |(e2,true)=>ko cb f e2
    |(e2,false)=>(e2,f)
theorem qW (cb:List Int):∀(f:Nat) (e:mu),(ko cb f e).1.cx.length=e.cx.length∧(ko cb f e).1.tr.length≤e.tr.length+f
 |0,e=>⟨rfl,Nat.le_refl _⟩
 |f+1,e=>by
  have ho:=qR cb e
  obtain ⟨t,ht,hl⟩:=ho.tr
  rw [ko]
  cases hs:bF cb e with
  |mk e2 b=>
   rw [hs] at ho ht
   cases b with
   |true=>
    obtain ⟨h1,h2⟩:=qW cb f e2
    refine ⟨h1.trans ho.cx,?_⟩
    have:e2.tr.length≤e.tr.length+1:=by rw [ht,ZR];omega
    simp only [];omega
   |false=>
    refine ⟨ho.cx,?_⟩
    have:e2.tr.length≤e.tr.length+1:=by rw [ht,ZR];omega
    simp only [];omega
end Go.Ev
namespace Go.Proofs.YtbfpahigdpigpaaGreat
open Go Go.Ev
theorem mixed:Tryz.prog.follows .mixedOrders=true:=by kernel_rfl
theorem ep:kI Zy 53 [.int .i8,.int .i8,.int .i8,.int .i8,.int .i8,.int .i64,.int .i64,.int .i8]:=kI.of_flat (d:=5) (by kernel_rfl) (by kernel_rfl) (by kernel_rfl) (by kernel_rfl)
theorem eu:kI Zy 46 [.bool,.bool,.bool,.bool,.bool]:=kI.of_flat (d:=5) (by kernel_rfl) (by kernel_rfl) (by kernel_rfl) (by kernel_rfl)
theorem xZ:kI Zy 48 [.int .u64,.int .u64,.int .u64,.int .u64,.int .u64,.int .u64,.int .u64,.int .u64,.int .u64,.int .u64,.int .u64,.int .u64,.int .u64,.int .u64,.int .u64,.int .u64,.bool,.bool,.bool,.bool,.bool,.int .u64]:=kI.of_flat (d:=5) (by kernel_rfl) (by kernel_rfl) (by kernel_rfl) (by kernel_rfl)
abbrev uX (nc nx:Nat):List D:= [av 1048576,.dz 4 1 nc,ax false,av 2097152,.dz 7 1 nx,ax true,av 3145728,.dz 8 1 64,ax true,av 4194304,.dz 9 1 264,ax true]
abbrev L6 (o0:Ob) (nc nx:Nat) (cc cx fr st:List D):List Ob:= [o0,aA (uX nc nx),aY,aY,aA cc,aY,aY,aA cx,aA fr,aA st]
abbrev EL:=List (Ev Zy)
theorem cI (b:Bool):b=true∨b=false:=Bool.eq_false_or_eq_true b
theorem cf:(∀ {p:Prop} [Decidable p],(decide p=true)=p)∧(∀ {p:Prop} [Decidable p],(decide p=false)↔ ¬p)∧(∀(b:Bool),(¬(b=true))=(b=false))∧(∀ {α:Type} [BEq α] [LawfulBEq α] {a b:α},(a==b)=true↔a=b)∧(∀ {α:Type} [BEq α] [LawfulBEq α] {a b:α},(a==b)=false↔a≠b)∧(∀(a b:Bool),(ax a=D.bool b)=(a=b)):=⟨@bX,@cJ,@Bool.not_eq_true,@cF,@gp,@D.bool.injEq⟩
theorem cO:(∀n:Int,aaY.i8.wrap n=(n+128)%256 - 128)∧(∀n:Int,aaY.u8.wrap n=n%256)∧(∀n:Int,aaY.i64.wrap n=(n+9223372036854775808)%18446744073709551616 - 9223372036854775808)∧(∀n:Int,aaY.u64.wrap n=n%18446744073709551616)∧(∀ {p:Prop} [Decidable p],(decide p=true)=p)∧(∀ {p:Prop} [Decidable p],(decide p=false)↔ ¬p)∧(∀ {α:Type} [BEq α] [LawfulBEq α] {a b:α},(a==b)=true↔a=b)∧(∀ {α:Type} [BEq α] [LawfulBEq α] {a b:α},(a !=b)=true↔a≠b)∧(∀ {α:Type} [BEq α] [LawfulBEq α] {a b:α},(a==b)=false↔a≠b)∧(∀ {α:Type} [BEq α] [LawfulBEq α] {a b:α},(a !=b)=false↔a=b)∧(∀(b:Bool),((!b)=true)=(b=false))∧(∀(b:Bool),((!b)=false)=(b=true))∧(∀(a b:Bool),((a&&b)=true)=(a=true∧b=true))∧(∀(a b:Bool),((a||b)=true)=(a=true∨b=true)):=⟨@dh,@bw,@aX,@bZ,@bX,@cJ,@cF,@lO,@gp,@bne_eq_false_iff_eq,@Z8,@aai,@ZD,@Bool.or_eq_true⟩
def OE (n:Nat) (f:Func):Prop:= ∀ {x:List D} {d:D} (o:EL),(h:yb Zy f x o=some (d,sj o True):=by kernel_rfl)→aQ Zy n x d
theorem o0:OE 0 Tryz.f0:=fun o h=>aQ.aj mixed Tryz.func0 (by kernel_rfl) o h
theorem o1:OE 1 Tryz.f1:=fun o h=>aQ.aj mixed Tryz.func1 (by kernel_rfl) o h
theorem o2:OE 2 Tryz.f2:=fun o h=>aQ.aj mixed Tryz.func2 (by kernel_rfl) o h
theorem o3:OE 3 Tryz.f3:=fun o h=>aQ.aj mixed Tryz.func3 (by kernel_rfl) o h
theorem o4:OE 4 Tryz.f4:=fun o h=>aQ.aj mixed Tryz.func4 (by kernel_rfl) o h
theorem o5:OE 5 Tryz.f5:=fun o h=>aQ.aj mixed Tryz.func5 (by kernel_rfl) o h
theorem o8:OE 8 Tryz.f8:=fun o h=>aQ.aj mixed Tryz.func8 (by kernel_rfl) o h
theorem o9:OE 9 Tryz.f9:=fun o h=>aQ.aj mixed Tryz.func9 (by kernel_rfl) o h
theorem N1:OE 11 Tryz.f11:=fun o h=>aQ.aj mixed Tryz.func11 (by kernel_rfl) o h
theorem fG:OE 12 Tryz.f12:=fun o h=>aQ.aj mixed Tryz.func12 (by kernel_rfl) o h
theorem fF:OE 13 Tryz.f13:=fun o h=>aQ.aj mixed Tryz.func13 (by kernel_rfl) o h
theorem fE:OE 14 Tryz.f14:=fun o h=>aQ.aj mixed Tryz.func14 (by kernel_rfl) o h
theorem fC:OE 15 Tryz.f15:=fun o h=>aQ.aj mixed Tryz.func15 (by kernel_rfl) o h
theorem N0:OE 16 Tryz.f16:=fun o h=>aQ.aj mixed Tryz.func16 (by kernel_rfl) o h
theorem Sj:OE 17 Tryz.f17:=fun o h=>aQ.aj mixed Tryz.func17 (by kernel_rfl) o h
theorem L5:OE 21 Tryz.f21:=fun o h=>aQ.aj mixed Tryz.func21 (by kernel_rfl) o h
theorem qN:OE 26 Tryz.f26:=fun o h=>aQ.aj mixed Tryz.func26 (by kernel_rfl) o h
theorem ma:OE 27 Tryz.f27:=fun o h=>aQ.aj mixed Tryz.func27 (by kernel_rfl) o h
theorem jV:OE 30 Tryz.f30:=fun o h=>aQ.aj mixed Tryz.func30 (by kernel_rfl) o h
theorem lr:OE 31 Tryz.f31:=fun o h=>aQ.aj mixed Tryz.func31 (by kernel_rfl) o h
theorem rh:OE 35 Tryz.f35:=fun o h=>aQ.aj mixed Tryz.func35 (by kernel_rfl) o h
theorem gl:OE 41 Tryz.f41:=fun o h=>aQ.aj mixed Tryz.func41 (by kernel_rfl) o h
theorem gr:OE 42 Tryz.f42:=fun o h=>aQ.aj mixed Tryz.func42 (by kernel_rfl) o h
theorem kT:OE 43 Tryz.f43:=fun o h=>aQ.aj mixed Tryz.func43 (by kernel_rfl) o h
theorem lR:OE 57 Tryz.f57:=fun o h=>aQ.aj mixed Tryz.func57 (by kernel_rfl) o h
theorem nQ:OE 58 Tryz.f58:=fun o h=>aQ.aj mixed Tryz.func58 (by kernel_rfl) o h
theorem Si:OE 59 Tryz.f59:=fun o h=>aQ.aj mixed Tryz.func59 (by kernel_rfl) o h
theorem L4:OE 60 Tryz.f60:=fun o h=>aQ.aj mixed Tryz.func60 (by kernel_rfl) o h
theorem Sh:OE 61 Tryz.f61:=fun o h=>aQ.aj mixed Tryz.func61 (by kernel_rfl) o h
theorem Sg:OE 62 Tryz.f62:=fun o h=>aQ.aj mixed Tryz.func62 (by kernel_rfl) o h
theorem Sf:OE 63 Tryz.f63:=fun o h=>aQ.aj mixed Tryz.func63 (by kernel_rfl) o h
theorem Q9:OE 64 Tryz.f64:=fun o h=>aQ.aj mixed Tryz.func64 (by kernel_rfl) o h
theorem Q8:OE 65 Tryz.f65:=fun o h=>aQ.aj mixed Tryz.func65 (by kernel_rfl) o h
theorem Se:OE 66 Tryz.f66:=fun o h=>aQ.aj mixed Tryz.func66 (by kernel_rfl) o h
theorem yH:OE 67 Tryz.f67:=fun o h=>aQ.aj mixed Tryz.func67 (by kernel_rfl) o h
theorem SO:OE 68 Tryz.f68:=fun o h=>aQ.aj mixed Tryz.func68 (by kernel_rfl) o h
theorem SN:OE 69 Tryz.f69:=fun o h=>aQ.aj mixed Tryz.func69 (by kernel_rfl) o h
theorem Sd:OE 70 Tryz.f70:=fun o h=>aQ.aj mixed Tryz.func70 (by kernel_rfl) o h
theorem eE:OE 72 Tryz.f72:=fun o h=>aQ.aj mixed Tryz.func72 (by kernel_rfl) o h
theorem nD:OE 73 Tryz.f73:=fun o h=>aQ.aj mixed Tryz.func73 (by kernel_rfl) o h
theorem PR:OE 75 Tryz.f75:=fun o h=>aQ.aj mixed Tryz.func75 (by kernel_rfl) o h
theorem SM:OE 76 Tryz.f76:=fun o h=>aQ.aj mixed Tryz.func76 (by kernel_rfl) o h
theorem SL:OE 77 Tryz.f77:=fun o h=>aQ.aj mixed Tryz.func77 (by kernel_rfl) o h
theorem l6:OE 83 Tryz.f83:=fun o h=>aQ.aj mixed Tryz.func83 (by kernel_rfl) o h
theorem Q7:OE 89 Tryz.f89:=fun o h=>aQ.aj mixed Tryz.func89 (by kernel_rfl) o h
theorem SK:OE 90 Tryz.f90:=fun o h=>aQ.aj mixed Tryz.func90 (by kernel_rfl) o h
theorem L3:OE 93 Tryz.f93:=fun o h=>aQ.aj mixed Tryz.func93 (by kernel_rfl) o h
theorem Sc:OE 95 Tryz.f95:=fun o h=>aQ.aj mixed Tryz.func95 (by kernel_rfl) o h
theorem SJ:OE 96 Tryz.f96:=fun o h=>aQ.aj mixed Tryz.func96 (by kernel_rfl) o h
theorem rf:OE 97 Tryz.f97:=fun o h=>aQ.aj mixed Tryz.func97 (by kernel_rfl) o h
theorem js:OE 98 Tryz.f98:=fun o h=>aQ.aj mixed Tryz.func98 (by kernel_rfl) o h
theorem Sb:OE 99 Tryz.f99:=fun o h=>aQ.aj mixed Tryz.func99 (by kernel_rfl) o h
theorem Qs:OE 100 Tryz.f100:=fun o h=>aQ.aj mixed Tryz.func100 (by kernel_rfl) o h
theorem MY:OE 101 Tryz.f101:=fun o h=>aQ.aj mixed Tryz.func101 (by kernel_rfl) o h
theorem KI:OE 102 Tryz.f102:=fun o h=>aQ.aj mixed Tryz.func102 (by kernel_rfl) o h
theorem Qr:OE 104 Tryz.f104:=fun o h=>aQ.aj mixed Tryz.func104 (by kernel_rfl) o h
theorem Qq:OE 105 Tryz.f105:=fun o h=>aQ.aj mixed Tryz.func105 (by kernel_rfl) o h
theorem Ry:OE 106 Tryz.f106:=fun o h=>aQ.aj mixed Tryz.func106 (by kernel_rfl) o h
theorem Qp:OE 108 Tryz.f108:=fun o h=>aQ.aj mixed Tryz.func108 (by kernel_rfl) o h
theorem Rx:OE 116 Tryz.f116:=fun o h=>aQ.aj mixed Tryz.func116 (by kernel_rfl) o h
theorem Qo:OE 129 Tryz.f129:=fun o h=>aQ.aj mixed Tryz.func129 (by kernel_rfl) o h
theorem Qn:OE 130 Tryz.f130:=fun o h=>aQ.aj mixed Tryz.func130 (by kernel_rfl) o h
theorem Rw:OE 131 Tryz.f131:=fun o h=>aQ.aj mixed Tryz.func131 (by kernel_rfl) o h
theorem Qm:OE 132 Tryz.f132:=fun o h=>aQ.aj mixed Tryz.func132 (by kernel_rfl) o h
theorem Rv:OE 133 Tryz.f133:=fun o h=>aQ.aj mixed Tryz.func133 (by kernel_rfl) o h
theorem Ru:OE 134 Tryz.f134:=fun o h=>aQ.aj mixed Tryz.func134 (by kernel_rfl) o h
theorem Ql:OE 136 Tryz.f136:=fun o h=>aQ.aj mixed Tryz.func136 (by kernel_rfl) o h
theorem Qk:OE 137 Tryz.f137:=fun o h=>aQ.aj mixed Tryz.func137 (by kernel_rfl) o h
theorem Qj:OE 138 Tryz.f138:=fun o h=>aQ.aj mixed Tryz.func138 (by kernel_rfl) o h
theorem ig:OE 142 Tryz.f142:=fun o h=>aQ.aj mixed Tryz.func142 (by kernel_rfl) o h
theorem iJ:OE 157 Tryz.f157:=fun o h=>aQ.aj mixed Tryz.func157 (by kernel_rfl) o h
theorem MX:OE 158 Tryz.f158:=fun o h=>aQ.aj mixed Tryz.func158 (by kernel_rfl) o h
theorem G5:OE 159 Tryz.f159:=fun o h=>aQ.aj mixed Tryz.func159 (by kernel_rfl) o h
theorem xJ:OE 160 Tryz.f160:=fun o h=>aQ.aj mixed Tryz.func160 (by kernel_rfl) o h
theorem KH:OE 161 Tryz.f161:=fun o h=>aQ.aj mixed Tryz.func161 (by kernel_rfl) o h
theorem Qi:OE 167 Tryz.f167:=fun o h=>aQ.aj mixed Tryz.func167 (by kernel_rfl) o h
theorem Rt:OE 168 Tryz.f168:=fun o h=>aQ.aj mixed Tryz.func168 (by kernel_rfl) o h
theorem Rs:OE 169 Tryz.f169:=fun o h=>aQ.aj mixed Tryz.func169 (by kernel_rfl) o h
theorem ru (a b c d:Int) (a0:0≤a) (a1:a≤255) (b0:0≤b) (b1:b≤255) (c0:0≤c) (c1:c≤255) (d0:0≤d) (d1:d≤255):aQ Zy 169 ([bj 1 [ay a,ay b,ay c,ay d]]) (av (a+256*b+65536*c+16777216*d)):=(Rs (d:= .int .u64 (aaY.wrap aaY.u64 (↑(Zz (Zw (64:Nat) (aaY.wrap aaY.u64 (aaY.wrap aaY.u64 (↑(Zz (Zw (64:Nat) (aaY.wrap aaY.u64 (aaY.wrap aaY.u64 (↑(Zz (Zw (64:Nat) (aaY.wrap aaY.u64 (aaY.wrap aaY.u64 (↑(Zz (Zw (64:Nat) 0|||Zw (64:Nat) (aaY.wrap aaY.u64 d))):Int)*256))|||Zw (64:Nat) (aaY.wrap aaY.u64 c))):Int)*256))|||Zw (64:Nat) (aaY.wrap aaY.u64 b))):Int)*256))|||Zw (64:Nat) (aaY.wrap aaY.u64 a))):Int))) ([.go 64]++cr 9 255)).to (by simp only [wk,D.int.injEq,ee];rw [OW (y:=d) (by omega) (by omega),ET (x:=d) (y:=c) (by omega) (by omega) (by omega) (by omega),ET (x:=d*256+c) (y:=b) (by omega) (by omega) (by omega) (by omega),ET (x:=(d*256+c)*256+b) (y:=a) (by omega) (by omega) (by omega) (by omega)];omega)
theorem sg (a b c d:Int) (a0:0≤a) (a1:a≤255) (b0:0≤b) (b1:b≤255) (c0:0≤c) (c1:c≤255) (d0:0≤d) (d1:d≤255):aQ Zy 168 ([bj 1 [ay a,ay b,ay c,ay d]]) (aq (fY a b c d)):=(Rt (d:= .int .i64 (aaY.i64.wrap (↑(Zz (Zw (64:Nat) (aaY.i64.wrap (aaY.i64.wrap (↑(Zz (Zw (64:Nat) (aaY.i64.wrap (aaY.i64.wrap (↑(Zz (Zw (64:Nat) (aaY.i64.wrap (aaY.i64.wrap (aaY.wrap aaY.i8 d)*256))|||Zw (64:Nat) (aaY.wrap aaY.i64 c))):Int)*256))|||Zw (64:Nat) (aaY.wrap aaY.i64 b))):Int)*256))|||Zw (64:Nat) (aaY.wrap aaY.i64 a))):Int))) [tT,tF,tT,.go 64,tT,tT,tT,tT,tT,tT,tF]).to (by simp only [wk,D.int.injEq,ee,dh];rw [show aaY.i64.wrap ((d+128)%256 - 128)=(d+128)%256 - 128 by rw [aX];omega,Cv (x:=(d+128)%256 - 128) (y:=c) (by omega) (by omega) (by omega) (by omega),Cv (x:=((d+128)%256 - 128)*256+c) (y:=b) (by omega) (by omega) (by omega) (by omega),Cv (x:=(((d+128)%256 - 128)*256+c)*256+b) (y:=a) (by omega) (by omega) (by omega) (by omega)];simp only [fY];omega)
theorem ES (b:List Int) (i:Int) (hi:0≤i):aQ Zy 158 ([bj 1 (bD b),aq i]) (ay (ia b i.toNat)):=by
 rcases cI (decide ((↑(ZA (bD b)):Int)≤i)) with h0|h0
 ·exact (MX (d:= .int .u8 0) [tC h0]).to (by simp only [wk,D.int.injEq,ee];first|done|(symm;apply Ap;simp only [bX] at*;omega))
 exact (MX (d:= .int .u8 (ia b (ZJ i))) [tC h0,tC (v:=true) (bK 0 (bM (Int.not_lt.2 hi))),.get _ _ _ (@Ps b i hi (by (simp only [cO] at*;omega)))]).to (by simp only [wk,D.int.injEq,ee];first|done|(symm;apply Ap;simp only [bX] at*;omega))
theorem Jc (b:List Int) (i:Int) (hi:0≤i) (h6:i≤6) (hs:((bD b).length:Int)<i+4):aQ Zy 161 ([bj 1 (bD b),aq i]) (aq 0):=(KH (d:= .int .i64 0) [tC (by (simp only [cO] at*;omega):(decide ((↑(ZA (bD b)):Int)<aaY.i64.wrap (i+4)))=true)]).to (by simp [wk])
theorem mQ (v:Int) (v0:0≤v) (v1:v≤255) (hq:kJ v=true):aQ Zy 159 ([ay v]) (.aL [ax (decide (v / 8%2=1)),ak (v / 4%2*8),ak (v%2*8),ax true]):=by
 by_cases h0:aad v 16=4
 ·let E1:EL:=(Zx 3 (tC (eF (nt (cD 4 true h0))))++ [tC (nt (cD 4 true h0))])
  by_cases h1:aaY.wrap aaY.u8 (↑(Zz (Zw (8:Nat) v&&&Zw (8:Nat) 2)):Int)=0
  ·exact (G5 (d:= .aL [ax (aaY.wrap aaY.u8 (↑(Zz (Zw (8:Nat) v&&&Zw (8:Nat) 8)):Int) !=0),ak (aaY.wrap aaY.i8 (aaY.wrap aaY.u8 (↑(Zz (Zw (8:Nat) (aaY.wrap aaY.u8 (v*2))&&&Zw (8:Nat) 8)):Int))),ak (aaY.wrap aaY.i8 (aaY.wrap aaY.u8 (↑(Zz (Zw (8:Nat) (aaY.wrap aaY.u8 (v*8))&&&Zw (8:Nat) 8)):Int))),ax true]) (E1++ [tC (nt (cD 0 true h1))])).to (by clear E1;simp only [wk,a7,D.int.injEq,D.bool.injEq,ee,eJ];obtain ⟨n,rfl⟩:=m5 v0 v1;clear v0 v1;revert n;decide+kernel)
  exact (G5 (d:= .aL [ax false,ak 0,ak 0,ax false]) (E1++ [tC (nt (aR h1))])).to (by clear E1;simp only [wk,a7,D.int.injEq,D.bool.injEq,ee,eJ];obtain ⟨n,rfl⟩:=m5 v0 v1;clear v0 v1;revert n;decide+kernel)
 exact (G5 (d:= .aL [ax false,ak 0,ak 0,ax false]) (Zx 3 (tC (eF (nt (aR h0))))++ [tC (nt (aR h0)),tT])).to (by simp only [wk,a7,D.int.injEq,D.bool.injEq,ee,eJ];obtain ⟨n,rfl⟩:=m5 v0 v1;clear v0 v1;revert n;decide+kernel)
theorem mR (v:Int) (v0:0≤v) (v1:v≤255) (hq:kJ v=false):aQ Zy 159 ([ay v]) (.aL [ax false,ak 0,ak 0,ax false]):=by
 by_cases h0:aad v 16=4
 ·let E1:EL:=(Zx 3 (tC (eF (nt (cD 4 true h0))))++ [tC (nt (cD 4 true h0))])
  by_cases h1:aaY.wrap aaY.u8 (↑(Zz (Zw (8:Nat) v&&&Zw (8:Nat) 2)):Int)=0
  ·exact (G5 (d:= .aL [ax (aaY.wrap aaY.u8 (↑(Zz (Zw (8:Nat) v&&&Zw (8:Nat) 8)):Int) !=0),ak (aaY.wrap aaY.i8 (aaY.wrap aaY.u8 (↑(Zz (Zw (8:Nat) (aaY.wrap aaY.u8 (v*2))&&&Zw (8:Nat) 8)):Int))),ak (aaY.wrap aaY.i8 (aaY.wrap aaY.u8 (↑(Zz (Zw (8:Nat) (aaY.wrap aaY.u8 (v*8))&&&Zw (8:Nat) 8)):Int))),ax true]) (E1++ [tC (nt (cD 0 true h1))])).to (by clear E1;first|(simp [wk,a7];done)|(simp only [wk,a7,D.int.injEq,D.bool.injEq,ee,eJ];obtain ⟨n,rfl⟩:=m5 v0 v1;clear v0 v1;revert n;decide+kernel))
  exact (G5 (d:= .aL [ax false,ak 0,ak 0,ax false]) (E1++ [tC (nt (aR h1))])).to (by clear E1;first|(simp [wk,a7];done)|(simp only [wk,a7,D.int.injEq,D.bool.injEq,ee,eJ];obtain ⟨n,rfl⟩:=m5 v0 v1;clear v0 v1;revert n;decide+kernel))
 exact (G5 (d:= .aL [ax false,ak 0,ak 0,ax false]) (Zx 3 (tC (eF (nt (aR h0))))++ [tC (nt (aR h0)),tT])).to (by first|(simp [wk,a7];done)|(simp only [wk,a7,D.int.injEq,D.bool.injEq,ee,eJ];obtain ⟨n,rfl⟩:=m5 v0 v1;clear v0 v1;revert n;decide+kernel))
theorem Jg (a b c d:Int) (t:List Int) (a0:0≤a) (a1:a≤255) (b0:0≤b) (b1:b≤255) (c0:0≤c) (c1:c≤255) (d0:0≤d) (d1:d≤255):aQ Zy 161 ([bj 1 (ay a::ay b::ay c::ay d::bD t),aq 0]) (aq (fY a b c d)):=by
 have c0:= @ru a b c d a0 a1 b0 b1 c0 c1 d0 d1
 exact (KH (d:= .int .i64 (aaY.i64.wrap (aaY.wrap aaY.i32 (a+(256:Int)*b+(65536:Int)*c+(16777216:Int)*d)))) [tF,.cM (decide ((0:Int)≤(0:Int)∧(0:Int)≤aaY.i64.wrap ((0:Int)+(4:Int))∧aaY.i64.wrap ((0:Int)+(4:Int))≤(↑(ZA (ay a::ay b::ay c::ay d::bD t)):Int))) true (by ((try simp only [ZZ,aG,cO] at*);omega)),aw c0]).to (by simp only [wk,D.int.injEq,ee,nS,aX,fY];omega)
theorem Jf (y0 a b c d:Int) (t:List Int) (a0:0≤a) (a1:a≤255) (b0:0≤b) (b1:b≤255) (c0:0≤c) (c1:c≤255) (d0:0≤d) (d1:d≤255):aQ Zy 161 ([bj 1 (ay y0::ay a::ay b::ay c::ay d::bD t),aq 1]) (aq (fY a b c d)):=by
 have c0:= @ru a b c d a0 a1 b0 b1 c0 c1 d0 d1
 exact (KH (d:= .int .i64 (aaY.i64.wrap (aaY.wrap aaY.i32 (a+(256:Int)*b+(65536:Int)*c+(16777216:Int)*d)))) [tF,.cM (decide ((0:Int)≤(1:Int)∧(1:Int)≤aaY.i64.wrap ((1:Int)+(4:Int))∧aaY.i64.wrap ((1:Int)+(4:Int))≤(↑(ZA (ay y0::ay a::ay b::ay c::ay d::bD t)):Int))) true (by ((try simp only [ZZ,aG,cO] at*);omega)),aw c0]).to (by simp only [wk,D.int.injEq,ee,nS,aX,fY];omega)
theorem Je (y0 y1 y2 y3 y4 a b c d:Int) (t:List Int) (a0:0≤a) (a1:a≤255) (b0:0≤b) (b1:b≤255) (c0:0≤c) (c1:c≤255) (d0:0≤d) (d1:d≤255):aQ Zy 161 ([bj 1 (ay y0::ay y1::ay y2::ay y3::ay y4::ay a::ay b::ay c::ay d::bD t),aq 5]) (aq (fY a b c d)):=by
 have c0:= @ru a b c d a0 a1 b0 b1 c0 c1 d0 d1
 exact (KH (d:= .int .i64 (aaY.i64.wrap (aaY.wrap aaY.i32 (a+(256:Int)*b+(65536:Int)*c+(16777216:Int)*d)))) [tF,.cM (decide ((0:Int)≤(5:Int)∧(5:Int)≤aaY.i64.wrap ((5:Int)+(4:Int))∧aaY.i64.wrap ((5:Int)+(4:Int))≤(↑(ZA (ay y0::ay y1::ay y2::ay y3::ay y4::ay a::ay b::ay c::ay d::bD t)):Int))) true (by ((try simp only [ZZ,aG,cO] at*);omega)),aw c0]).to (by simp only [wk,D.int.injEq,ee,nS,aX,fY];omega)
theorem Jd (y0 y1 y2 y3 y4 y5 a b c d:Int) (t:List Int) (a0:0≤a) (a1:a≤255) (b0:0≤b) (b1:b≤255) (c0:0≤c) (c1:c≤255) (d0:0≤d) (d1:d≤255):aQ Zy 161 ([bj 1 (ay y0::ay y1::ay y2::ay y3::ay y4::ay y5::ay a::ay b::ay c::ay d::bD t),aq 6]) (aq (fY a b c d)):=by
 have c0:= @ru a b c d a0 a1 b0 b1 c0 c1 d0 d1
 exact (KH (d:= .int .i64 (aaY.i64.wrap (aaY.wrap aaY.i32 (a+(256:Int)*b+(65536:Int)*c+(16777216:Int)*d)))) [tF,.cM (decide ((0:Int)≤(6:Int)∧(6:Int)≤aaY.i64.wrap ((6:Int)+(4:Int))∧aaY.i64.wrap ((6:Int)+(4:Int))≤(↑(ZA (ay y0::ay y1::ay y2::ay y3::ay y4::ay y5::ay a::ay b::ay c::ay d::bD t)):Int))) true (by ((try simp only [ZZ,aG,cO] at*);omega)),aw c0]).to (by simp only [wk,D.int.injEq,ee,nS,aX,fY];omega)
theorem jA:aQ Zy 160 ([bj 1 []]) (.aL [ak 0,ak 0,aq 0,ax false,aq 0,aq 30]):=(xJ (d:= .aL [ak 0,ak 0,aq 0,ax false,aq 0,aq 30]) [tT]).to (by simp [wk,a7])
theorem Ha (v:Int) (v0:0≤v) (v1:v≤255) (t:List Int) (h3:v / 64=3):aQ Zy 160 ([bj 1 (ay v::bD t)]) (.aL [ak (v / 8%8),ak (v%8),aq (0),ax false,aq 1,aq 0]):=(xJ (d:= .aL [ak (aaY.wrap aaY.i8 (aaY.wrap aaY.u8 (↑(Zz (Zw (8:Nat) (aad v 8)&&&Zw (8:Nat) 7)):Int))),ak (aaY.wrap aaY.i8 (aaY.wrap aaY.u8 (↑(Zz (Zw (8:Nat) v&&&Zw (8:Nat) 7)):Int))),aq 0,ax false,aq 1,aq 0]) ([tF]++Zx 3 (.get (ay v::bD t) 0 (ay v) rfl)++ [tC (cD 3 true (eq_of_beq (@Ok v h3)))])).to (by simp only [wk,a7,D.int.injEq,D.bool.injEq,ee,eJ,AF,O8 v0 v1,and_self];first|done|omega)
theorem CH (v:Int) (v0:0≤v) (v1:v≤255) (a b c d:Int) (t:List Int) (a0:0≤a) (a1:a≤255) (b0:0≤b) (b1:b≤255) (c0:0≤c) (c1:c≤255) (d0:0≤d) (d1:d≤255) (h2:v / 64=2) (hr:¬v%8=4):aQ Zy 160 ([bj 1 (ay v::ay a::ay b::ay c::ay d::bD t)]) (.aL [ak (v / 8%8),ak (v%8),aq (fY a b c d),ax true,aq 5,aq 0]):=by
 have c0:= @sg a b c d a0 a1 b0 b1 c0 c1 d0 d1
 generalize g2:fY a b c d=r1 at c0
 exact (xJ (d:= .aL [ak (aaY.wrap aaY.i8 (aaY.wrap aaY.u8 (↑(Zz (Zw (8:Nat) (aad v (8:Int))&&&Zw (8:Nat) (7:Int))):Int))),ak (aaY.wrap aaY.i8 (aaY.wrap aaY.u8 (↑(Zz (Zw (8:Nat) v&&&Zw (8:Nat) (7:Int))):Int))),aq r1,ax true,aq 5,aq 0]) ([tF]++Zx 3 (.get (ay v::ay a::ay b::ay c::ay d::bD t) 0 (ay v) rfl)++ [tC (@rQ (v) h2),tC (cD 2 true (eq_of_beq (@rR (v) h2))),tC (@KS (v) hr)]++Zx 3 (tC (eT (bK 5 (by ((try simp only [ZZ,Z5,aG,cO] at*);omega):(decide ((↑(ZA (ay v::ay a::ay b::ay c::ay d::bD t)):Int)<(5:Int)))=false))))++ [tF,tF,tF,tF,tC (eT (bK 5 (by ((try simp only [ZZ,Z5,aG,cO] at*);omega):(decide ((↑(ZA (ay v::ay a::ay b::ay c::ay d::bD t)):Int)<(5:Int)))=false))),tT,tC (bK 5 (by ((try simp only [ZZ,Z5,aG,cO] at*);omega):(decide ((↑(ZA (ay v::ay a::ay b::ay c::ay d::bD t)):Int)<(5:Int)))=false)),tT,.cM (decide ((0:Int)≤(1:Int)∧(1:Int)≤aaY.i64.wrap ((1:Int)+(4:Int))∧aaY.i64.wrap ((1:Int)+(4:Int))≤(↑(ZA (ay v::ay a::ay b::ay c::ay d::bD t)):Int))) true (by ((try simp only [ZZ,Z5,aG,cO] at*);omega)),aw c0])).to (by simp only [wk,a7,D.int.injEq,D.bool.injEq,ee,eJ,AF,O8 v0 v1,and_self];first|done|omega)
theorem CG (v:Int) (v0:0≤v) (v1:v≤255) (a b c d:Int) (t:List Int) (a0:0≤a) (a1:a≤255) (b0:0≤b) (b1:b≤255) (c0:0≤c) (c1:c≤255) (d0:0≤d) (d1:d≤255) (h2:v / 64=2) (hr:v%8=4):aQ Zy 160 ([bj 1 (ay v::ay 36::ay a::ay b::ay c::ay d::bD t)]) (.aL [ak (v / 8%8),ak (v%8),aq (fY a b c d),ax true,aq 6,aq 0]):=by
 have c0:= @sg a b c d a0 a1 b0 b1 c0 c1 d0 d1
 generalize g2:fY a b c d=r1 at c0
 exact (xJ (d:= .aL [ak (aaY.wrap aaY.i8 (aaY.wrap aaY.u8 (↑(Zz (Zw (8:Nat) (aad v (8:Int))&&&Zw (8:Nat) (7:Int))):Int))),ak (aaY.wrap aaY.i8 (aaY.wrap aaY.u8 (↑(Zz (Zw (8:Nat) v&&&Zw (8:Nat) (7:Int))):Int))),aq r1,ax true,aq 6,aq 0]) ([tF]++Zx 3 (.get (ay v::ay 36::ay a::ay b::ay c::ay d::bD t) 0 (ay v) rfl)++ [tC (@rQ (v) h2),tC (cD 2 true (eq_of_beq (@rR (v) h2))),tC (cD 4 true (eq_of_beq (@CP (v) hr)))]++Zx 3 (tC (eT (bK 6 (by ((try simp only [ZZ,Z5,aG,cO] at*);omega):(decide ((↑(ZA (ay v::ay 36::ay a::ay b::ay c::ay d::bD t)):Int)<(6:Int)))=false))))++ [tT,tT,tT,tT,tC (eT (bK 6 (by ((try simp only [ZZ,Z5,aG,cO] at*);omega):(decide ((↑(ZA (ay v::ay 36::ay a::ay b::ay c::ay d::bD t)):Int)<(6:Int)))=false))),tF,tC (bK 6 (by ((try simp only [ZZ,Z5,aG,cO] at*);omega):(decide ((↑(ZA (ay v::ay 36::ay a::ay b::ay c::ay d::bD t)):Int)<(6:Int)))=false)),tT,.cM (decide ((0:Int)≤(2:Int)∧(2:Int)≤aaY.i64.wrap ((2:Int)+(4:Int))∧aaY.i64.wrap ((2:Int)+(4:Int))≤(↑(ZA (ay v::ay 36::ay a::ay b::ay c::ay d::bD t)):Int))) true (by ((try simp only [ZZ,Z5,aG,cO] at*);omega)),aw c0])).to (by simp only [wk,a7,D.int.injEq,D.bool.injEq,ee,eJ,AF,O8 v0 v1,and_self];first|done|omega)
theorem Hb (v:Int) (v0:0≤v) (v1:v≤255) (t:List Int) (hl:v / 64<2):aQ Zy 160 ([bj 1 (ay v::bD t)]) (.aL [ak 0,ak 0,aq 0,ax false,aq 0,aq 30]):=(xJ (d:= .aL [ak 0,ak 0,aq 0,ax false,aq 0,aq 30]) ([tF]++Zx 3 (.get (ay v::bD t) 0 (ay v) rfl)++ [tC (@Mg v hl),tC (@Ol v hl)])).to (by simp [wk,a7])
theorem G9 (v:Int) (v0:0≤v) (v1:v≤255) (t:List Int) (h2:v / 64=2) (hr:¬v%8=4) (hs:t.length<4):aQ Zy 160 ([bj 1 (ay v::bD t)]) (.aL [ak 0,ak 0,aq 0,ax false,aq 0,aq 30]):=(xJ (d:= .aL [ak 0,ak 0,aq 0,ax false,aq 0,aq 30]) ([tF]++Zx 3 (.get (ay v::bD t) 0 (ay v) rfl)++ [tC (@rQ v h2),tC (cD 2 true (eq_of_beq (@rR v h2))),tC (@KS v hr)]++Zx 4 (tC (eT (bK 5 (by ((try simp only [ZZ,Z5,aG,cO] at*);omega):(decide ((↑(ZA (ay v::bD t)):Int)<5))=true))))++ [tC (bK 5 (by ((try simp only [ZZ,Z5,aG,cO] at*);omega):(decide ((↑(ZA (ay v::bD t)):Int)<5))=true)),tF])).to (by simp [wk,a7])
theorem uR (v:Int) (v0:0≤v) (v1:v≤255) (t:List Int) (h2:v / 64=2) (hr:v%8=4) (hs:t.length<5):aQ Zy 160 ([bj 1 (ay v::bD t)]) (.aL [ak 0,ak 0,aq 0,ax false,aq 0,aq 30]):=(xJ (d:= .aL [ak 0,ak 0,aq 0,ax false,aq 0,aq 30]) ([tF]++Zx 3 (.get (ay v::bD t) 0 (ay v) rfl)++ [tC (@rQ v h2),tC (cD 2 true (eq_of_beq (@rR v h2))),tC (cD 4 true (eq_of_beq (@CP v hr)))]++Zx 4 (tC (eT (bK 6 (by ((try simp only [ZZ,Z5,aG,cO] at*);omega):(decide ((↑(ZA (ay v::bD t)):Int)<6))=true))))++ [tC (bK 6 (by ((try simp only [ZZ,Z5,aG,cO] at*);omega):(decide ((↑(ZA (ay v::bD t)):Int)<6))=true)),tF])).to (by simp [wk,a7])
theorem G8 (v:Int) (v0:0≤v) (v1:v≤255) (s:Int) (t:List Int) (h2:v / 64=2) (hr:v%8=4) (hs:¬s=36):aQ Zy 160 ([bj 1 (ay v::ay s::bD t)]) (.aL [ak 0,ak 0,aq 0,ax false,aq 0,aq 30]):=by
 let E1:EL:=([tF]++Zx 3 (.get (ay v::ay s::bD t) 0 (ay v) rfl)++ [tC (@rQ v h2),tC (cD 2 true (eq_of_beq (@rR v h2))),tC (cD 4 true (eq_of_beq (@CP v hr)))])
 rcases cI (decide ((↑(ZA (ay v::ay s::bD t)):Int)<6)) with h0|h0
 ·exact (xJ (d:= .aL [ak 0,ak 0,aq 0,ax false,aq 0,aq 30]) (E1++Zx 4 (tC (eT (bK 6 h0)))++ [tC (bK 6 h0),tF])).to (by clear E1;simp [wk,a7])
 exact (xJ (d:= .aL [ak 0,ak 0,aq 0,ax false,aq 0,aq 30]) (E1++Zx 3 (tC (eT (bK 6 h0)))++ [tT,tT,tT,tT,tC (eT (bK 6 h0)),tF,tC (bK 6 h0),tC (by ((try simp only [ZZ,Z5,aG,cO] at*);omega):(s==36)=false)])).to (by clear E1;simp [wk,a7])
theorem pD (t:List Int):t.length<4∨∃a b c d r,t=a::b::c::d::r:=by
 match t with
 | []=>exact .inl (by simp)
 | [_]=>exact .inl (by simp)
 | [_,_]=>exact .inl (by simp)
 | [_,_,_]=>exact .inl (by simp)
 |a::b::c::d::r=>exact .inr ⟨a,b,c,d,r,rfl⟩
theorem mB (v:List Int) (hv:dx v):aQ Zy 160 [bj 1 (bD v)] (.aL [ak (jO v),ak (jP v),aq (lu v),ax (decide (2≤ir v)),aq (ir v:Int),aq (jI v)]):=by
 match v,hv with
 | [],_=>exact jA.cast rfl rfl
 |v::t,hv=>
  obtain ⟨⟨v0,v1⟩,ht⟩:=fM.1 hv
  have e:bD (v::t)= .int .u8 v::bD t:=rfl
  by_cases h3:v / 64=3
  ·have hn:ir (v::t)=1:=by simp [ir,h3]
   refine (Ha v v0 v1 t h3).cast rfl ?_
   simp [jO,jP,lu,jI,hn,hd]
  ·by_cases h2:v / 64=2
   ·by_cases hr:v%8=4
    ·match t,ht with
     | [],ht=>
      have hn:ir [v]=0:=by simp [ir,h2,hr]
      refine (uR v v0 v1 [] h2 hr (by simp)).cast rfl ?_
      simp [jO,jP,lu,jI,hn]
     |s::t,ht=>
      by_cases hs:s=36
      ·subst hs
       rcases pD t with hl|⟨a,b,c,d,r,rfl⟩
       ·have hn:ir (v::36::t)=0:=by simp [ir,h2,hr,hd];omega
        refine (uR v v0 v1 (36::t) h2 hr (by simp;omega)).cast rfl ?_
        simp [jO,jP,lu,jI,hn]
       ·have hn:ir (v::36::a::b::c::d::r)=6:=by simp [ir,h2,hr,hd]
        simp only [fM] at ht
        obtain ⟨-,⟨a0,a1⟩,⟨b0,b1⟩,⟨c0,c1⟩,⟨d0,d1⟩,-⟩:=ht
        refine (CG v v0 v1 a b c d r a0 a1 b0 b1 c0 c1 d0 d1 h2 hr).cast rfl ?_
        simp [jO,jP,lu,jI,hn,hd,Br]
      ·have hn:ir (v::s::t)=0:=by simp [ir,h2,hr,hd,hs]
       refine (G8 v v0 v1 s t h2 hr hs).cast rfl ?_
       simp [jO,jP,lu,jI,hn]
    ·rcases pD t with hl|⟨a,b,c,d,r,rfl⟩
     ·have hn:ir (v::t)=0:=by simp [ir,h2,hr];omega
      refine (G9 v v0 v1 t h2 hr hl).cast rfl ?_
      simp [jO,jP,lu,jI,hn]
     ·have hn:ir (v::a::b::c::d::r)=5:=by simp [ir,h2,hr]
      simp only [fM] at ht
      obtain ⟨⟨a0,a1⟩,⟨b0,b1⟩,⟨c0,c1⟩,⟨d0,d1⟩,-⟩:=ht
      refine (CH v v0 v1 a b c d r a0 a1 b0 b1 c0 c1 d0 d1 h2 hr).cast rfl ?_
      simp [jO,jP,lu,jI,hn,hd,Br]
   ·have hn:ir (v::t)=0:=by simp [ir,h2,h3]
    refine (Hb v v0 v1 t (by omega)).cast rfl ?_
    simp [jO,jP,lu,jI,hn]
theorem Es (b:List Int) (hb:dx b) (i:Nat) (hi:i=0∨i=1∨i=5∨i=6):aQ Zy 161 [bj 1 (bD b),aq (i:Int)] (aq (iM b i)):=by
 by_cases hs:b.length<i+4
 ·refine (Jc b i (by omega) (by omega) (by rw [aG];omega)).cast rfl ?_
  simp [iM,hs]
 ·have hq:∀ {x:D},iM b i=Br (b.drop i):=fun {_} =>by simp [iM,hs]
  rw [hq (x:= .undef)]
  rcases hi with rfl|rfl|rfl|rfl
  ·match b,hb,hs with
   |a::b::c::d::t,hb,_=>
    simp only [fM] at hb
    obtain ⟨⟨a0,a1⟩,⟨b0,b1⟩,⟨c0,c1⟩,⟨d0,d1⟩,-⟩:=hb
    exact (Jg a b c d t a0 a1 b0 b1 c0 c1 d0 d1).cast rfl rfl
   | [],_,hs| [_],_,hs| [_,_],_,hs| [_,_,_],_,hs=>simp at hs
  ·match b,hb,hs with
   |y::a::b::c::d::t,hb,_=>
    simp only [fM] at hb
    obtain ⟨-,⟨a0,a1⟩,⟨b0,b1⟩,⟨c0,c1⟩,⟨d0,d1⟩,-⟩:=hb
    exact (Jf y a b c d t a0 a1 b0 b1 c0 c1 d0 d1).cast rfl rfl
   | [],_,hs| [_],_,hs| [_,_],_,hs| [_,_,_],_,hs| [_,_,_,_],_,hs=>simp at hs
  ·match b,hb,hs with
   |y0::y1::y2::y3::y4::a::b::c::d::t,hb,_=>
    simp only [fM] at hb
    obtain ⟨-,-,-,-,-,⟨a0,a1⟩,⟨b0,b1⟩,⟨c0,c1⟩,⟨d0,d1⟩,-⟩:=hb
    exact (Je y0 y1 y2 y3 y4 a b c d t a0 a1 b0 b1 c0 c1 d0 d1).cast rfl rfl
   | [],_,hs| [_],_,hs| [_,_],_,hs| [_,_,_],_,hs| [_,_,_,_],_,hs| [_,_,_,_,_],_,hs| [_,_,_,_,_,_],_,hs| [_,_,_,_,_,_,_],_,hs| [_,_,_,_,_,_,_,_],_,hs=>simp at hs
  ·match b,hb,hs with
   |y0::y1::y2::y3::y4::y5::a::b::c::d::t,hb,_=>
    simp only [fM] at hb
    obtain ⟨-,-,-,-,-,-,⟨a0,a1⟩,⟨b0,b1⟩,⟨c0,c1⟩,⟨d0,d1⟩,-⟩:=hb
    exact (Jd y0 y1 y2 y3 y4 y5 a b c d t a0 a1 b0 b1 c0 c1 d0 d1).cast rfl rfl
   | [],_,hs| [_],_,hs| [_,_],_,hs| [_,_,_],_,hs| [_,_,_,_],_,hs| [_,_,_,_,_],_,hs| [_,_,_,_,_,_],_,hs| [_,_,_,_,_,_,_],_,hs| [_,_,_,_,_,_,_,_],_,hs| [_,_,_,_,_,_,_,_,_],_,hs=>simp at hs
theorem Hc (v:List Int):ir v=0∨ir v=1∨ir v=5∨ir v=6:=by
 unfold ir
 split
 ·exact .inl rfl
 ·split
  ·exact .inr (.inl rfl)
  ·split
   ·split<;>split<;>simp
   ·exact .inl rfl
theorem ft (v:List Int) (hv:dx v):aQ Zy 161 [bj 1 (bD v),aq (ir v:Int)] (aq (iM v (ir v))):=Es v hv _ (Hc v)
theorem bS (v:List Int) (hv:dx v):aQ Zy 161 [bj 1 (bD v),aq 0] (aq (iM v 0)):=Es v hv 0 (.inl rfl)
theorem fu (v:List Int):aQ Zy 158 [bj 1 (bD v),aq (ir v:Int)] (ay (ia v (ir v))):=(ES v _ (by omega)).cast rfl (by simp)
theorem bT (v:List Int):aQ Zy 158 [bj 1 (bD v),aq 0] (ay (ia v 0)):=ES v 0 (by omega)
end Go.Proofs.YtbfpahigdpigpaaGreat
