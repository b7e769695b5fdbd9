import Derived.Test.YtbfpahigdpigpaaGreatS05
import Derived.Test.YtbfpahigdpigpaaGreatS06
import Derived.Test.YtbfpahigdpigpaaGreatS09
import Derived.Test.YtbfpahigdpigpaaGreatS11
open BitVec renaming ofInt→Xf,toNat→Xm
open List renaming replicate→Xg
open Go.Proofs.Tryz renaming prog→Xh
open Int renaming toNat→Xi,not_lt→Xk,fdiv→Xq
open And renaming intro→Xw
open True renaming intro→X7
open Go.Fn renaming func→Yo
open Go renaming IntKind→YO
/- Contracts and plain laws that a statement's proof leans on (texts merged:MdK1,MdK2,MdK3,MdK4,MdEm,MdW,MdF2,E0,XS1,XS2,XW,MdE,MdP,MdS,Y1a,Y1b,Y1c,Y1d). -/
set_option linter.unusedVariables false
set_option linter.unusedSimpArgs false
set_option maxRecDepth 100000
set_option maxHeartbeats 8000000
namespace Go.Ev
open Go
def kn.may (x:kn):Bool:=Pr x.kind x.op x.width x.size x.fI x.ab x.ae x.off x.aq
def QF (l:List kn):List D:=l.map kn.d
def GQ (i kind off:Int):Bool:=(kind==3||kind==4)&&(decide (-1099511627776≤i∧i≤1099511627776)&&decide (-1099511627776≤off∧off≤1099511627776))
def Dk (i kind off:Int):Int:=if GQ i kind off=true then i+1+off else 0
def Jq (n:Int):Int→List kn→Option (Int×Int)
  |_,[]=>none
  |i,x::r=>if x.may=false then some (i,31) else if GQ i x.kind x.off=true∧¬(0≤Dk i x.kind x.off∧Dk i x.kind x.off<n) then some (i,32) else Jq n (i+1) r
def wu (l:List kn) (i:Nat):Int:=match l[i]? with|some x=>x.kind|none=>0
def PD (ctx:Int) (l:List kn):Int×Int:=
  if ctx<0∨256<ctx then (0,2) else if l.length<1∨64<l.length then (0,3)
  else match Jq l.length 0 l with
    |some r=>r
    |none=>if wu l (l.length - 1)=4∨wu l (l.length - 1)=6 then (0,0) else (l.length - 1,33)
def G1 (k:Int):Bool:=k==3||k==4||k==6
def NI (es:List (Int×D)) (k:Int) (x:kn):List (Int×D):=
  if GQ k x.kind x.off=true then m7 (if G1 x.kind=true then m7 es (k+1) (ax true) else es) (Dk k x.kind x.off) (ax true)
  else if G1 x.kind=true then m7 es (k+1) (ax true) else es
def OH (l:List kn):Nat→List (Int×D)
  |0=> [(0,ax true)]
  |k+1=>match l[k]? with
    |some x=>NI (OH l k) k x
    |none=>OH l k
def PE (l:List kn) (k:Nat) (i:Int):Bool:=match l[k]? with
  |some x=>(G1 x.kind&&i==(k:Int)+1)||(GQ k x.kind x.off&&i==Dk k x.kind x.off)
  |none=>false
def OG (l:List kn) (i:Int):Nat→Bool
  |0=>i==0
  |k+1=>OG l i k||PE l k i
def QA (l:List kn) (i:Int):Bool:=OG l i l.length
structure QJ (l:List kn):Prop where
  pos:1≤l.length
  le:l.length≤64
  may:∀j (h:j<l.length),l[j].may=true
  QC:∀j (h:j<l.length),GQ j l[j].kind l[j].off=true→0≤Dk j l[j].kind l[j].off∧Dk j l[j].kind l[j].off<l.length
  last:wu l (l.length - 1)=4∨wu l (l.length - 1)=6
theorem cg {l:List D} {i:Nat} {x:D} (h:(i:Int)<(l.length:Int)):C6 l i [x] (l.set i x):=by
 refine ⟨?_,by simp;omega⟩
 rw [List.set_eq_take_append_cons_drop,if_pos (by omega)]
 rfl
theorem BC {l:List D} {i:Nat} {x:D} (h:∀c∈l,c.clean=true) (hx:x.clean=true):∀c∈l.set i x,c.clean=true:=by
 intro c hc
 rcases List.mem_or_eq_of_mem_set hc with q|rfl
 ·exact h c q
 ·exact hx
theorem bn (b:List Int):∀c∈bD b,c.clean=true:=by
 intro c hc
 obtain ⟨n,_,rfl⟩:=List.mem_map.1 hc
 rfl
theorem dH (b:List Int):(bD b).map D.bu=bD b:=by
 simp only [bD,List.map_map]
 rfl
theorem cn (b:List Int):(bD b).all isByte=true:=by
 rw [List.all_eq_true]
 intro c hc
 obtain ⟨n,_,rfl⟩:=List.mem_map.1 hc
 rfl
theorem dC:∀b:List Int,bZ (bD b)=some (bD b)
 | []=>rfl
 |a::b=>by
  have ih:=dC b
  unfold bD at ih ⊢
  rw [List.map_cons,bZ,ih]
  rfl
theorem jP {n m:Nat} {c:D} {b:List D} (h:b.length=n) (hm:m=n):C6 (Xg m c) 0 b b:=by
 subst h
 subst hm
 refine ⟨by simp,by simp⟩
theorem I9 {l:List D} {n:Nat} (h:n=l.length):jb l 0 n l:=by
 subst h
 exact ⟨by simp,by simp⟩
theorem CU {l:List D} {i n:Nat} {l':List D} (h:jb l i n l'):jb l i n l':=h
theorem hP {n:Nat} :Nat.ble n (Xi (n:Int))=true:=by rw [Int.toNat_natCast,Nat.ble_eq];exact Nat.le_refl _
theorem mq {id len:Nat} {y n:Int} (n0:1≤n) (n8:n≤8) (hl:len≤16384) (a1:YO.u64.wrap y≤len) (a2:n≤len - YO.u64.wrap y):
  D.aQ [.sub id (0+Xi (YO.u64.wrap y)*1) 1 (Xi (YO.i64.wrap (YO.i64.wrap (YO.u64.wrap y)+n)) - Xi (YO.u64.wrap y)) (some (Xi (YO.i64.wrap (YO.i64.wrap (YO.u64.wrap y)+n)) - Xi (YO.u64.wrap y))),ax true]=D.aQ [.sub id (Xi (YO.u64.wrap y)) 1 n.toNat (some n.toNat),ax true]:=by
 have h0:0≤YO.u64.wrap y:=by rw [dt];omega
 have e1:0+Xi (YO.u64.wrap y)*1=Xi (YO.u64.wrap y):=by omega
 have e2:Xi (YO.i64.wrap (YO.i64.wrap (YO.u64.wrap y)+n)) - Xi (YO.u64.wrap y)=n.toNat:=by
  generalize YO.u64.wrap y=z at*
  rw [aU,aU];omega
 rw [e1,e2]
def zW (v b:Int):Int:=YO.u64.wrap ((Xf 64 (YO.u64.wrap (v*256))|||Xf 64 (YO.u64.wrap b)).toNat:Int)
def xo:List Int→Int
  | []=>0
  |b::t=>zW (xo t) b
def Nz (cs:List D) (k:Nat) (w:Int):Nat→List D
  |0=>cs
  |n+1=>(Nz cs k w n).set (k+n*1) (.int .u8 (YO.u8.wrap (w.fdiv (256^n))))
theorem eZ:(∀ {α:Type} {a b:List α},(a++b).length=a.length+b.length)∧(∀ {α:Type} {x:α} {a:List α},(x::a).length=a.length+1)∧(∀ {α:Type},([]:List α).length=0)∧(∀ {α:Type} {a:List α} {i:Nat} {x:α},(a.set i x).length=a.length)∧(∀ {α:Type} {n:Nat} {x:α},(Xg n x).length=n)∧(∀n:Int,YO.i8.wrap n=(n+128)%256 - 128)∧(∀n:Int,YO.u8.wrap n=n%256)∧(∀n:Int,YO.i64.wrap n=(n+9223372036854775808)%18446744073709551616 - 9223372036854775808)∧(∀n:Int,YO.u64.wrap n=n%18446744073709551616)∧(∀ {p:Prop} [Decidable p],(decide p=true)=p)∧(∀ {p:Prop} [Decidable p],(decide p=false)↔ ¬p)∧(∀ {α:Type} [BEq α] [LawfulBEq α] {a b:α},(a==b)=true↔a=b)∧(∀ {α:Type} [BEq α] [LawfulBEq α] {a b:α},(a !=b)=true↔a≠b)∧(∀ {α:Type} [BEq α] [LawfulBEq α] {a b:α},(a==b)=false↔a≠b)∧(∀ {α:Type} [BEq α] [LawfulBEq α] {a b:α},(a !=b)=false↔a=b)∧(∀b:Bool,((!b)=true)=(b=false))∧(∀b:Bool,((!b)=false)=(b=true))∧(∀a b:Bool,((a&&b)=true)=(a=true∧b=true))∧(∀a b:Bool,((a||b)=true)=(a=true∨b=true))∧(∀p:Prop,(p∧True)=p)∧(∀p:Prop,(True∧p)=p)∧(∀ {α:Type} (a:α),(a=a)=True):=
 ⟨List.length_append,List.length_cons,List.length_nil,List.length_set,List.length_replicate,dJ,bF,aU,dt,@bP,@cq,@ck,@gu,@eI,@bne_eq_false_iff_eq,by intro b;cases b<;>simp,by intro b;cases b<;>simp,by intro a b;simp,by intro a b;simp,by intro p;simp,by intro p;simp,by intro α a;simp⟩
def Mm (op ab ae aa:Int):Int:=
  if op=0 then lg ae
  else if op=1∨op=28∨op=29 then 0
  else if 20≤op∧op≤22 then Ep (lg ab) (lg 1)
  else if op=24 then Ep (Ep (lg ab) (lg 0)) (lg 2)
  else if op=26 then lg aa
  else if op=27 then Ep (lg aa) (lg ae)
  else if op=30 then 17
  else if op=31 then 1477
  else if aF op=1∨aF op=2∨aF op=6 then Ep (lg ab) (lg ae)
  else lg ab
def qc (op ab:Int):Int:=
  if op=7∨op=8∨op=14∨op=15∨op=27∨op=28∨op=29 then 0
  else if op=24 then 5
  else if op=30 then 16
  else if op=31 then 2051
  else lg ab
def OV (op w ab ae aa af aq cc:Int):Int:=if a8 op w ab ae aa af aq cc then Mm op ab ae aa else 0
def kS (op w ab ae aa af aq cc:Int):Int:=if a8 op w ab ae aa af aq cc then qc op ab else 0
def LF (w a b:Int):Bool:=decide (bo (u64 (a+b)) w<bo a w)
def LD (w a b:Int):Bool:=iX (xf (xu a (u64 (a+b))) (xu b (u64 (a+b)))) w
def Dn (w a b:Int):Bool:=decide (bo a w<bo b w)
def Dl (w a b:Int):Bool:=iX (xf (xu a b) (xu a (u64 (a - b)))) w
theorem uY (v:Int):YO.u64.wrap (YO.i64.wrap (YO.i8.wrap v))=YO.u64.wrap (YO.i8.wrap v):=by rw [dt,dt,aU,dJ];omega
theorem uX (v:Int):YO.u64.wrap (YO.i64.wrap (YO.i16.wrap v))=YO.u64.wrap (YO.i16.wrap v):=by rw [dt,dt,aU,NG];omega
theorem uW (v:Int):YO.u64.wrap (YO.i64.wrap (YO.i32.wrap v))=YO.u64.wrap (YO.i32.wrap v):=by rw [dt,dt,aU,nM];omega
def eR (cc:Int) (c z s o:Bool):Bool:=
  if cc=2 then c else if cc=3 then !c else if cc=4 then z else if cc=5 then !z else if cc=6 then (c||z) else if cc=7 then !(c||z)
  else if cc=12 then (s !=o) else if cc=13 then !(s !=o) else if cc=14 then (z||(s !=o)) else !(z||(s !=o))
def JZ (op:Int):Bool:= !(decide (op=7∨op=8∨op=14∨op=15∨op=27∨op=28∨op=29))
theorem J6 {d:Int} (h0:0≤d) (h1:d≤15):lg d≠0:=by
 obtain ⟨n,rfl⟩:=il h0 h1
 clear h0 h1
 revert n
 decide+kernel
theorem jf {op w ab ae aa af aq cc:Int} (hm:a8 op w ab ae aa af aq cc=true) (d0:0≤ab) (d1:ab≤15) (So:JZ op=true):(kS op w ab ae aa af aq cc==0)=false:=by
 rw [eI]
 unfold kS
 rw [if_pos hm]
 unfold qc
 simp only [JZ,Bool.not_eq_true',cq] at So
 rw [if_neg So]
 split
 ·decide
 ·split
  ·decide
  ·split
   ·decide
   ·exact J6 d0 d1
theorem JX {op w ab ae aa af aq cc:Int} (So:JZ op=false):(kS op w ab ae aa af aq cc==0)=true:=by
 rw [ck]
 unfold kS qc
 simp only [JZ,Bool.not_eq_false',bP] at So
 rw [if_pos So]
 split<;>rfl
end Go.Ev
namespace Go.Proofs.YtbfpahigdpigpaaGreat
open Go Go.Ev
theorem cL (v w:Int):aY Xh 147 ([aB v,aj w]) (aB (bo v w)):=by
 by_cases h0:w=8
 ·subst h0
  exact (aY.ai (d:= .int .u64 (YO.wrap YO.u64 (YO.wrap YO.u8 v))) mixed Tryz.func147 (by kernel_rfl) [tT]).to (by simp [wk,bo,bF,B8,B7,dt,];try omega)
 ·by_cases h1:w=16
  ·subst h1
   exact (aY.ai (d:= .int .u64 (YO.wrap YO.u64 (YO.wrap YO.u16 v))) mixed Tryz.func147 (by kernel_rfl) [tC (aH h0),tT]).to (by simp [wk,bo,bF,B8,B7,dt,h0];try omega)
  ·by_cases h2:w=32
   ·subst h2
    exact (aY.ai (d:= .int .u64 (YO.wrap YO.u64 (YO.wrap YO.u32 v))) mixed Tryz.func147 (by kernel_rfl) [tC (aH h0),tC (aH h1),tT]).to (by simp [wk,bo,bF,B8,B7,dt,h0,h1];try omega)
   ·exact (aY.ai (d:= .int .u64 v) mixed Tryz.func147 (by kernel_rfl) [tC (aH h0),tC (aH h1),tC (aH h2)]).to (by simp [wk,bo,bF,B8,B7,dt,h0,h1,h2];try omega)
theorem Cf (v w:Int):aY Xh 186 ([aB v,aj w]) (aB (fF v w)):=by
 by_cases h0:w=8
 ·subst h0
  exact (aY.ai (d:= .int .u64 (YO.wrap YO.u64 (YO.i64.wrap (YO.wrap YO.i8 v)))) mixed Tryz.func186 (by kernel_rfl) [tT]).to (by simp [wk,fF,u64,uY,uX,uW,])
 ·by_cases h1:w=16
  ·subst h1
   exact (aY.ai (d:= .int .u64 (YO.wrap YO.u64 (YO.i64.wrap (YO.wrap YO.i16 v)))) mixed Tryz.func186 (by kernel_rfl) [tC (aH h0),tT]).to (by simp [wk,fF,u64,uY,uX,uW,h0])
  ·by_cases h2:w=32
   ·subst h2
    exact (aY.ai (d:= .int .u64 (YO.wrap YO.u64 (YO.i64.wrap (YO.wrap YO.i32 v)))) mixed Tryz.func186 (by kernel_rfl) [tC (aH h0),tC (aH h1),tT]).to (by simp [wk,fF,u64,uY,uX,uW,h0,h1])
   ·exact (aY.ai (d:= .int .u64 v) mixed Tryz.func186 (by kernel_rfl) [tC (aH h0),tC (aH h1),tC (aH h2)]).to (by simp [wk,fF,u64,uY,uX,uW,h0,h1,h2])
theorem iq (w:Int):aY Xh 164 ([aj w]) (ax (aE w)):=by
 by_cases h0:w=32
 ·subst h0
  exact (aY.ai (d:= .bool true) mixed Tryz.func164 (by kernel_rfl) [tF,tF,tT]).to (by simp only [wk,D.bool.injEq,aE];first|rfl|(rw [Bool.eq_iff_iff];simp [];try omega))
 ·exact (aY.ai (d:= .bool (w==(64:Int))) mixed Tryz.func164 (by kernel_rfl) [tC (eF (aH h0)),tC (eF (aH h0)),tC (aH h0)]).to (by simp only [wk,D.bool.injEq,aE];first|rfl|(rw [Bool.eq_iff_iff];simp [h0];try omega))
def np (Q3:Int):Prop:= ∀(w a b:Int) (hw:aE w=true),aY Xh 153 ([aj Q3,aj w,aB a,aB b]) (.aQ [aB (iO Q3 w a b),ao 0])
theorem zh:np 0:=by
  intro w a b hw
  have c0:= @iq (w)
  rw [show (aE w)=true from hw] at c0
  have c1:= @cL (a) (w)
  have c2:= @cL (b) (w)
  have c3:= @cL (YO.wrap YO.u64 (bo a w+bo b w)) (w)
  exact (aY.ai (d:= .aQ [aB (bo (YO.wrap YO.u64 (bo a w+bo b w)) w),ao 0]) mixed Tryz.func153 (by kernel_rfl) [tT,tT,tF,tT,tT,aw c0,tT,tF,tF,aw c1,aw c2,aW,tT,aW,aw c3]).to (by first|((simp only [aI,fS];repeat' (first|rfl|exact X7|apply Xw));done)|(simp [aI,iO,sU,];done)|(simp [aI,iO,sU,u64, *];done))
theorem oG:np 1:=by
 intro w a b hw
 have c0:= @iq (w)
 rw [show (aE w)=true from hw] at c0
 have c1:= @cL (a) (w)
 have c2:= @cL (b) (w)
 have c3:= @cL (YO.wrap YO.u64 (bo a w - bo b w)) (w)
 exact (aY.ai (d:= .aQ [aB (bo (YO.wrap YO.u64 (bo a w - bo b w)) w),ao 0]) mixed Tryz.func153 (by kernel_rfl) [tT,tT,tF,tT,tT,aw c0,tT,tF,tF,aw c1,aw c2,aW,tT,aW,aw c3]).to (by first|((simp only [aI,fS];repeat' (first|rfl|exact X7|apply Xw));done)|(simp [aI,iO,sU,];done)|(simp [aI,iO,sU,u64, *];done))
theorem JA:np 2:=by
 intro w a b hw
 have c0:= @iq (w)
 rw [show (aE w)=true from hw] at c0
 have c1:= @cL (a) (w)
 have c2:= @cL (b) (w)
 have c3:= @cL (YO.wrap YO.u64 (bo a w*bo b w)) (w)
 exact (aY.ai (d:= .aQ [aB (bo (YO.wrap YO.u64 (bo a w*bo b w)) w),ao 0]) mixed Tryz.func153 (by kernel_rfl) [tT,tT,tF,tT,tT,aw c0,tT,tF,tF,aw c1,aw c2,aW,tT,aW,aw c3]).to (by first|((simp only [aI,fS];repeat' (first|rfl|exact X7|apply Xw));done)|(simp [aI,iO,sU,];done)|(simp [aI,iO,sU,u64, *];done))
theorem zg:np 4:=by
 intro w a b hw
 have c0:= @iq (w)
 rw [show (aE w)=true from hw] at c0
 have c1:= @cL (a) (w)
 have c2:= @cL (b) (w)
 have c3:= @cL (YO.wrap YO.u64 (↑(Xm (Xf (64:Nat) (bo a w)|||Xf (64:Nat) (bo b w))):Int)) (w)
 exact (aY.ai (d:= .aQ [aB (bo (YO.wrap YO.u64 (↑(Xm (Xf (64:Nat) (bo a w)|||Xf (64:Nat) (bo b w))):Int)) w),ao 0]) mixed Tryz.func153 (by kernel_rfl) [tT,tT,tF,tT,tT,aw c0,tT,tF,tF,aw c1,aw c2,aW,tT,aW,aw c3]).to (by first|((simp only [aI,fS];repeat' (first|rfl|exact X7|apply Xw));done)|(simp [aI,iO,sU,];done)|(simp [aI,iO,sU,u64, *];done))
theorem oE:np 5:=by
 intro w a b hw
 have c0:= @iq (w)
 rw [show (aE w)=true from hw] at c0
 have c1:= @cL (a) (w)
 have c2:= @cL (b) (w)
 have c3:= @cL (YO.wrap YO.u64 (↑(Xm (Xf (64:Nat) (bo a w)&&&Xf (64:Nat) (bo b w))):Int)) (w)
 exact (aY.ai (d:= .aQ [aB (bo (YO.wrap YO.u64 (↑(Xm (Xf (64:Nat) (bo a w)&&&Xf (64:Nat) (bo b w))):Int)) w),ao 0]) mixed Tryz.func153 (by kernel_rfl) [tT,tT,tF,tT,tT,aw c0,tT,tF,tF,aw c1,aw c2,aW,tT,aW,aw c3]).to (by first|((simp only [aI,fS];repeat' (first|rfl|exact X7|apply Xw));done)|(simp [aI,iO,sU,];done)|(simp [aI,iO,sU,u64, *];done))
theorem zf:np 6:=by
 intro w a b hw
 have c0:= @iq (w)
 rw [show (aE w)=true from hw] at c0
 have c1:= @cL (a) (w)
 have c2:= @cL (b) (w)
 have c3:= @cL (YO.wrap YO.u64 (bo a w*(2:Int)^min (Xi (YO.wrap YO.u64 (↑(Xm (Xf (64:Nat) (bo b w)&&&Xf (64:Nat) (YO.wrap YO.u64 (YO.wrap YO.i8 (w - (1:Int)))))):Int))) (64:Nat))) (w)
 exact (aY.ai (d:= .aQ [aB (bo (YO.wrap YO.u64 (bo a w*(2:Int)^min (Xi (YO.wrap YO.u64 (↑(Xm (Xf (64:Nat) (bo b w)&&&Xf (64:Nat) (YO.wrap YO.u64 (YO.wrap YO.i8 (w - (1:Int)))))):Int))) (64:Nat))) w),ao 0]) mixed Tryz.func153 (by kernel_rfl) ([tT,tT,tF,tT,tT,aw c0,tT,tF,tF,aw c1,aw c2,aW,tT,aW,tT]++ [aw c3])).to (by first|((simp only [aI,fS];repeat' (first|rfl|exact X7|apply Xw));done)|(simp [aI,iO,sU,];done)|(simp [aI,iO,sU,u64, *];done))
theorem ze:np 7:=by
 intro w a b hw
 have c0:= @iq (w)
 rw [show (aE w)=true from hw] at c0
 have c1:= @cL (a) (w)
 have c2:= @cL (b) (w)
 have c3:= @cL (Xq (bo a w) ((2:Int)^min (Xi (YO.wrap YO.u64 (↑(Xm (Xf (64:Nat) (bo b w)&&&Xf (64:Nat) (YO.wrap YO.u64 (YO.wrap YO.i8 (w - (1:Int)))))):Int))) (64:Nat))) (w)
 exact (aY.ai (d:= .aQ [aB (bo (Xq (bo a w) ((2:Int)^min (Xi (YO.wrap YO.u64 (↑(Xm (Xf (64:Nat) (bo b w)&&&Xf (64:Nat) (YO.wrap YO.u64 (YO.wrap YO.i8 (w - (1:Int)))))):Int))) (64:Nat))) w),ao 0]) mixed Tryz.func153 (by kernel_rfl) ([tT,tT,tF,tT,tT,aw c0,tT,tF,tF,aw c1,aw c2,aW,tT,aW,tT]++ [aw c3])).to (by first|((simp only [aI,fS];repeat' (first|rfl|exact X7|apply Xw));done)|(simp [aI,iO,sU,];done)|(simp [aI,iO,sU,u64, *];done))
theorem Jz:np 8:=by
 intro w a b hw
 have c0:= @iq (w)
 rw [show (aE w)=true from hw] at c0
 have c1:= @cL (a) (w)
 have c2:= @cL (b) (w)
 have c3:= @cL (YO.wrap YO.u64 ((0:Int) - bo a w)) (w)
 exact (aY.ai (d:= .aQ [aB (bo (YO.wrap YO.u64 ((0:Int) - bo a w)) w),ao 0]) mixed Tryz.func153 (by kernel_rfl) [tT,tT,tF,tT,tT,aw c0,tT,tF,tF,aw c1,aw c2,aW,tT,aW,aw c3]).to (by first|((simp only [aI,fS];repeat' (first|rfl|exact X7|apply Xw));done)|(simp [aI,iO,sU,];done)|(simp [aI,iO,sU,u64, *];done))
theorem uo:np 10:=by
 intro w a b hw
 have c0:= @iq (w)
 rw [show (aE w)=true from hw] at c0
 have c1:= @cL (a) (w)
 have c2:= @cL (b) (w)
 have c3:= @cL (YO.wrap YO.u64 (↑(Xm (Xf (64:Nat) (bo a w)^^^Xf (64:Nat) (bo b w))):Int)) (w)
 exact (aY.ai (d:= .aQ [aB (bo (YO.wrap YO.u64 (↑(Xm (Xf (64:Nat) (bo a w)^^^Xf (64:Nat) (bo b w))):Int)) w),ao 0]) mixed Tryz.func153 (by kernel_rfl) [tT,tT,tF,tT,tT,aw c0,tT,tF,tF,aw c1,aw c2,aW,tT,aW,aw c3]).to (by first|((simp only [aI,fS];repeat' (first|rfl|exact X7|apply Xw));done)|(simp [aI,iO,sU,];done)|(simp [aI,iO,sU,u64, *];done))
theorem um:np 12:=by
 intro w a b hw
 have c0:= @iq (w)
 rw [show (aE w)=true from hw] at c0
 have c1:= @cL (a) (w)
 have c2:= @cL (b) (w)
 have c3:= @Cf (bo a w) (w)
 have c4:= @cL (YO.wrap YO.u64 (Xq (YO.i64.wrap (fF (bo a w) w)) ((2:Int)^min (Xi (YO.wrap YO.u64 (↑(Xm (Xf (64:Nat) (bo b w)&&&Xf (64:Nat) (YO.wrap YO.u64 (YO.wrap YO.i8 (w - (1:Int)))))):Int))) (64:Nat)))) (w)
 exact (aY.ai (d:= .aQ [aB (bo (YO.wrap YO.u64 (Xq (YO.i64.wrap (fF (bo a w) w)) ((2:Int)^min (Xi (YO.wrap YO.u64 (↑(Xm (Xf (64:Nat) (bo b w)&&&Xf (64:Nat) (YO.wrap YO.u64 (YO.wrap YO.i8 (w - (1:Int)))))):Int))) (64:Nat)))) w),ao 0]) mixed Tryz.func153 (by kernel_rfl) ([tT,tT,tF,tT,tT,aw c0,tT,tF,tF,aw c1,aw c2,aW,tT,aW,aw c3]++ [tT,aw c4])).to (by first|((simp only [aI,fS];repeat' (first|rfl|exact X7|apply Xw));done)|(simp [aI,iO,sU,];done)|(simp [aI,iO,sU,u64, *];done))
theorem dv:aY Xh 149 ([]) (fD false false false false false):=(aY.ai (d:= .agg [ax false,ax false,ax false,ax false,ax false]) mixed Tryz.func149 (by kernel_rfl) []).to (by (simp only [wk,jC];repeat' (first|rfl|exact X7|apply Xw));done)
theorem mR (v w:Int):aY Xh 166 ([aB v,aj w]) (ax (iX v w)):=by
 have c0:= @Cf (v) (w)
 exact (aY.ai (d:= .bool (decide (YO.i64.wrap (fF v w)<(0:Int)))) mixed Tryz.func166 (by kernel_rfl) [aw c0]).to (by first|((simp only [aI,fS];repeat' (first|rfl|exact X7|apply Xw));done)|(simp [aI,];done))
theorem kL (w v:Int) (hw:aE w=true):aY Xh 156 ([aj w,aB v]) (.aQ [fD true false (bo v w==0) (iX v w) false,ao 0]):=by
 by_cases h0:w=32
 ·subst h0
  have c1:= @cL (v) ((32:Int))
  have c2:= @mR (v) ((32:Int))
  exact (aY.ai (d:= .aQ [.agg [ax true,ax false,ax (bo v (32:Int)==(0:Int)),ax (iX v (32:Int)),ax false],ao 0]) mixed Tryz.func156 (by kernel_rfl) [tF,tF,tF,tF,aw c1,aw c2]).to (by first|((simp only [aI,fS];repeat' (first|rfl|exact X7|apply Xw));done)|(exfalso;simp [aE] at*;done)|(exfalso;simp [aE] at*;omega))
 ·by_cases h3:w=64
  ·subst h3
   have c4:= @cL (v) ((64:Int))
   have c5:= @mR (v) ((64:Int))
   exact (aY.ai (d:= .aQ [.agg [ax true,ax false,ax (bo v (64:Int)==(0:Int)),ax (iX v (64:Int)),ax false],ao 0]) mixed Tryz.func156 (by kernel_rfl) [tC (eT (nt (aH h0))),tC (eT (nt (aH h0))),tC (nt (aH h0)),tF,aw c4,aw c5]).to (by first|((simp only [aI,fS];repeat' (first|rfl|exact X7|apply Xw));done)|(exfalso;simp [aE] at*;done)|(exfalso;simp [aE] at*;omega))
  ·exact (aY.ai (d:= .aQ [.agg [ax false,ax false,ax false,ax false,ax false],ao 2]) mixed Tryz.func156 (by kernel_rfl) [tC (eT (nt (aH h0))),tC (eT (nt (aH h0))),tC (nt (aH h0)),tC (nt (aH h3))]).to (by first|((simp only [aI,fS];repeat' (first|rfl|exact X7|apply Xw));done)|(exfalso;simp [aE] at*;done)|(exfalso;simp [aE] at*;omega))
theorem CX (w a b:Int) (hw:aE w=true):aY Xh 154 ([aj w,aB a,aB b]) (.aQ [fD true (LF w a b) (bo (u64 (a+b)) w==0) (iX (u64 (a+b)) w) (LD w a b),ao 0]):=by
 have c0:= @kL (w) (YO.wrap YO.u64 (a+b)) hw
 have c1:= @cL (YO.wrap YO.u64 (a+b)) (w)
 have c2:= @cL (a) (w)
 have c3:= @mR (YO.wrap YO.u64 (↑(Xm (Xf (64:Nat) (YO.wrap YO.u64 (↑(Xm (Xf (64:Nat) a^^^Xf (64:Nat) (YO.wrap YO.u64 (a+b)))):Int))&&&Xf (64:Nat) (YO.wrap YO.u64 (↑(Xm (Xf (64:Nat) b^^^Xf (64:Nat) (YO.wrap YO.u64 (a+b)))):Int)))):Int)) (w)
 exact (aY.ai (d:= .aQ [.agg [ax true,ax (decide (bo (YO.wrap YO.u64 (a+b)) w<bo a w)),ax (bo (YO.wrap YO.u64 (a+b)) w==(0:Int)),ax (iX (YO.wrap YO.u64 (a+b)) w),ax (iX (YO.wrap YO.u64 (↑(Xm (Xf (64:Nat) (YO.wrap YO.u64 (↑(Xm (Xf (64:Nat) a^^^Xf (64:Nat) (YO.wrap YO.u64 (a+b)))):Int))&&&Xf (64:Nat) (YO.wrap YO.u64 (↑(Xm (Xf (64:Nat) b^^^Xf (64:Nat) (YO.wrap YO.u64 (a+b)))):Int)))):Int)) w)],ao 0]) mixed Tryz.func154 (by kernel_rfl) [aw c0,tF,aw c1,aw c2,aw c3]).to (by first|((simp only [aI,fS];repeat' (first|rfl|exact X7|apply Xw));done)|(simp [aI,];done))
theorem ou (w a b:Int) (hw:aE w=true):aY Xh 155 ([aj w,aB a,aB b]) (.aQ [fD true (Dn w a b) (bo (u64 (a - b)) w==0) (iX (u64 (a - b)) w) (Dl w a b),ao 0]):=by
 have c0:= @kL (w) (YO.wrap YO.u64 (a - b)) hw
 have c1:= @cL (a) (w)
 have c2:= @cL (b) (w)
 have c3:= @mR (YO.wrap YO.u64 (↑(Xm (Xf (64:Nat) (YO.wrap YO.u64 (↑(Xm (Xf (64:Nat) a^^^Xf (64:Nat) b)):Int))&&&Xf (64:Nat) (YO.wrap YO.u64 (↑(Xm (Xf (64:Nat) a^^^Xf (64:Nat) (YO.wrap YO.u64 (a - b)))):Int)))):Int)) (w)
 exact (aY.ai (d:= .aQ [.agg [ax true,ax (decide (bo a w<bo b w)),ax (bo (YO.wrap YO.u64 (a - b)) w==(0:Int)),ax (iX (YO.wrap YO.u64 (a - b)) w),ax (iX (YO.wrap YO.u64 (↑(Xm (Xf (64:Nat) (YO.wrap YO.u64 (↑(Xm (Xf (64:Nat) a^^^Xf (64:Nat) b)):Int))&&&Xf (64:Nat) (YO.wrap YO.u64 (↑(Xm (Xf (64:Nat) a^^^Xf (64:Nat) (YO.wrap YO.u64 (a - b)))):Int)))):Int)) w)],ao 0]) mixed Tryz.func155 (by kernel_rfl) [aw c0,tF,aw c1,aw c2,aw c3]).to (by first|((simp only [aI,fS];repeat' (first|rfl|exact X7|apply Xw));done)|(simp [aI,];done))
theorem eL (a:Int) (a0:0≤a) (a1:a≤15):aY Xh 167 ([.bc .tight 1 [aj a]]) (ao (lg a)):=(N4 (d:=D.int YO.i64 (YO.i64.wrap (↑(Xm (Xf (64:Nat) 0|||Xf (64:Nat) (YO.i64.wrap (1*2^min (Xi a) (64:Nat))))):Int))) [.go 64,tT,tT,tC (v:=true) (bO 0 (bg (Xk.2 a0))),tF]).to (by simp only [wk,D.int.injEq,ev];obtain ⟨n_a,rfl⟩:=il a0 a1;clear a0 a1;revert n_a;decide+kernel)
theorem J7 (a:Int) (a0:0≤a) (a1:a≤15) (b:Int) (b0:0≤b) (b1:b≤15):aY Xh 167 ([.bc .tight 1 [aj a,aj b]]) (ao (Ep (lg a) (lg b))):=(N4 (d:=D.int YO.i64 (YO.i64.wrap (↑(Xm (Xf (64:Nat) (YO.i64.wrap (↑(Xm (Xf (64:Nat) 0|||Xf (64:Nat) (YO.i64.wrap (1*2^min (Xi a) (64:Nat))))):Int))|||Xf (64:Nat) (YO.i64.wrap (1*2^min (Xi b) (64:Nat))))):Int))) [.go 64,tT,tT,tC (v:=true) (bO 0 (bg (Xk.2 a0))),tT,tT,tC (v:=true) (bO 0 (bg (Xk.2 b0))),tF]).to (by simp only [wk,D.int.injEq,ev];obtain ⟨n_a,rfl⟩:=il a0 a1;obtain ⟨n_b,rfl⟩:=il b0 b1;clear a0 a1 b0 b1;revert n_a n_b;decide+kernel)
def eo (Q3:Int):Prop:= ∀(w ab ae aa af aq cc:Int) (d0:0≤ab) (d1:ab≤15) (s0:0≤ae) (s1:ae≤15) (b0:0≤aa) (b1:aa≤15) (hm:a8 Q3 w ab ae aa af aq cc=true),aY Xh 157 ([xD Q3 w ab ae aa af aq cc]) (ao (qc Q3 ab))
theorem xG:eo 0:=by
 intro w ab ae aa af aq cc d0 d1 s0 s1 b0 b1 hm
 have c0:= @bm 0 w ab ae aa af aq cc (by decide)
 rw [hm] at c0
 have c1:= @eL ab d0 d1
 exact (ib (d:= .int .i64 (lg ab)) ([aw c0]++Xg 11 tF++ [aw c1])).to (by rfl)
theorem xF:eo 1:=by
 intro w ab ae aa af aq cc d0 d1 s0 s1 b0 b1 hm
 have c0:= @bm 1 w ab ae aa af aq cc (by decide)
 rw [hm] at c0
 have c1:= @eL ab d0 d1
 exact (ib (d:= .int .i64 (lg ab)) ([aw c0]++Xg 11 tF++ [aw c1])).to (by rfl)
theorem xE:eo 2:=by
 intro w ab ae aa af aq cc d0 d1 s0 s1 b0 b1 hm
 have c0:= @bm 2 w ab ae aa af aq cc (by decide)
 rw [hm] at c0
 have c1:= @eL ab d0 d1
 exact (ib (d:= .int .i64 (lg ab)) ([aw c0]++Xg 11 tF++ [aw c1])).to (by rfl)
theorem xB:eo 3:=by
 intro w ab ae aa af aq cc d0 d1 s0 s1 b0 b1 hm
 have c0:= @bm 3 w ab ae aa af aq cc (by decide)
 rw [hm] at c0
 have c1:= @eL ab d0 d1
 exact (ib (d:= .int .i64 (lg ab)) ([aw c0]++Xg 11 tF++ [aw c1])).to (by rfl)
theorem xA:eo 4:=by
 intro w ab ae aa af aq cc d0 d1 s0 s1 b0 b1 hm
 have c0:= @bm 4 w ab ae aa af aq cc (by decide)
 rw [hm] at c0
 have c1:= @eL ab d0 d1
 exact (ib (d:= .int .i64 (lg ab)) ([aw c0]++Xg 11 tF++ [aw c1])).to (by rfl)
theorem xz:eo 5:=by
 intro w ab ae aa af aq cc d0 d1 s0 s1 b0 b1 hm
 have c0:= @bm 5 w ab ae aa af aq cc (by decide)
 rw [hm] at c0
 have c1:= @eL ab d0 d1
 exact (ib (d:= .int .i64 (lg ab)) ([aw c0]++Xg 11 tF++ [aw c1])).to (by rfl)
theorem xy:eo 6:=by
 intro w ab ae aa af aq cc d0 d1 s0 s1 b0 b1 hm
 have c0:= @bm 6 w ab ae aa af aq cc (by decide)
 rw [hm] at c0
 have c1:= @eL ab d0 d1
 exact (ib (d:= .int .i64 (lg ab)) ([aw c0]++Xg 11 tF++ [aw c1])).to (by rfl)
theorem xx:eo 7:=by
 intro w ab ae aa af aq cc d0 d1 s0 s1 b0 b1 hm
 have c0:= @bm 7 w ab ae aa af aq cc (by decide)
 rw [hm] at c0
 exact (ib (d:= .int .i64 0) [aw c0,tF,tT,tT]).to (by rfl)
theorem xw:eo 8:=by
 intro w ab ae aa af aq cc d0 d1 s0 s1 b0 b1 hm
 have c0:= @bm 8 w ab ae aa af aq cc (by decide)
 rw [hm] at c0
 exact (ib (d:= .int .i64 0) [aw c0,tF,tF,tT,tT]).to (by rfl)
theorem xv:eo 9:=by
 intro w ab ae aa af aq cc d0 d1 s0 s1 b0 b1 hm
 have c0:= @bm 9 w ab ae aa af aq cc (by decide)
 rw [hm] at c0
 have c1:= @eL ab d0 d1
 exact (ib (d:= .int .i64 (lg ab)) ([aw c0]++Xg 11 tF++ [aw c1])).to (by rfl)
theorem uS:eo 10:=by
 intro w ab ae aa af aq cc d0 d1 s0 s1 b0 b1 hm
 have c0:= @bm 10 w ab ae aa af aq cc (by decide)
 rw [hm] at c0
 have c1:= @eL ab d0 d1
 exact (ib (d:= .int .i64 (lg ab)) ([aw c0]++Xg 11 tF++ [aw c1])).to (by rfl)
theorem uR:eo 11:=by
 intro w ab ae aa af aq cc d0 d1 s0 s1 b0 b1 hm
 have c0:= @bm 11 w ab ae aa af aq cc (by decide)
 rw [hm] at c0
 have c1:= @eL ab d0 d1
 exact (ib (d:= .int .i64 (lg ab)) ([aw c0]++Xg 11 tF++ [aw c1])).to (by rfl)
theorem uQ:eo 12:=by
 intro w ab ae aa af aq cc d0 d1 s0 s1 b0 b1 hm
 have c0:= @bm 12 w ab ae aa af aq cc (by decide)
 rw [hm] at c0
 have c1:= @eL ab d0 d1
 exact (ib (d:= .int .i64 (lg ab)) ([aw c0]++Xg 11 tF++ [aw c1])).to (by rfl)
theorem uP:eo 13:=by
 intro w ab ae aa af aq cc d0 d1 s0 s1 b0 b1 hm
 have c0:= @bm 13 w ab ae aa af aq cc (by decide)
 rw [hm] at c0
 have c1:= @eL ab d0 d1
 exact (ib (d:= .int .i64 (lg ab)) ([aw c0]++Xg 11 tF++ [aw c1])).to (by rfl)
theorem uO:eo 14:=by
 intro w ab ae aa af aq cc d0 d1 s0 s1 b0 b1 hm
 have c0:= @bm 14 w ab ae aa af aq cc (by decide)
 rw [hm] at c0
 exact (ib (d:= .int .i64 0) [aw c0,tF,tF,tF,tT,tT]).to (by rfl)
theorem uN:eo 15:=by
 intro w ab ae aa af aq cc d0 d1 s0 s1 b0 b1 hm
 have c0:= @bm 15 w ab ae aa af aq cc (by decide)
 rw [hm] at c0
 exact (ib (d:= .int .i64 0) [aw c0,tF,tF,tF,tF,tT,tT]).to (by rfl)
theorem uM:eo 16:=by
 intro w ab ae aa af aq cc d0 d1 s0 s1 b0 b1 hm
 have c0:= @bm 16 w ab ae aa af aq cc (by decide)
 rw [hm] at c0
 have c1:= @eL ab d0 d1
 exact (ib (d:= .int .i64 (lg ab)) ([aw c0]++Xg 11 tF++ [aw c1])).to (by rfl)
theorem uL:eo 17:=by
 intro w ab ae aa af aq cc d0 d1 s0 s1 b0 b1 hm
 have c0:= @bm 17 w ab ae aa af aq cc (by decide)
 rw [hm] at c0
 have c1:= @eL ab d0 d1
 exact (ib (d:= .int .i64 (lg ab)) ([aw c0]++Xg 11 tF++ [aw c1])).to (by rfl)
theorem uK:eo 18:=by
 intro w ab ae aa af aq cc d0 d1 s0 s1 b0 b1 hm
 have c0:= @bm 18 w ab ae aa af aq cc (by decide)
 rw [hm] at c0
 have c1:= @eL ab d0 d1
 exact (ib (d:= .int .i64 (lg ab)) ([aw c0]++Xg 11 tF++ [aw c1])).to (by rfl)
theorem uJ:eo 19:=by
 intro w ab ae aa af aq cc d0 d1 s0 s1 b0 b1 hm
 have c0:= @bm 19 w ab ae aa af aq cc (by decide)
 rw [hm] at c0
 have c1:= @eL ab d0 d1
 exact (ib (d:= .int .i64 (lg ab)) ([aw c0]++Xg 11 tF++ [aw c1])).to (by rfl)
theorem uI:eo 20:=by
 intro w ab ae aa af aq cc d0 d1 s0 s1 b0 b1 hm
 have c0:= @bm 20 w ab ae aa af aq cc (by decide)
 rw [hm] at c0
 have c1:= @eL ab d0 d1
 exact (ib (d:= .int .i64 (lg ab)) ([aw c0]++Xg 11 tF++ [aw c1])).to (by rfl)
theorem uH:eo 21:=by
 intro w ab ae aa af aq cc d0 d1 s0 s1 b0 b1 hm
 have c0:= @bm 21 w ab ae aa af aq cc (by decide)
 rw [hm] at c0
 have c1:= @eL ab d0 d1
 exact (ib (d:= .int .i64 (lg ab)) ([aw c0]++Xg 11 tF++ [aw c1])).to (by rfl)
theorem uG:eo 22:=by
 intro w ab ae aa af aq cc d0 d1 s0 s1 b0 b1 hm
 have c0:= @bm 22 w ab ae aa af aq cc (by decide)
 rw [hm] at c0
 have c1:= @eL ab d0 d1
 exact (ib (d:= .int .i64 (lg ab)) ([aw c0]++Xg 11 tF++ [aw c1])).to (by rfl)
theorem uF:eo 23:=by
 intro w ab ae aa af aq cc d0 d1 s0 s1 b0 b1 hm
 have c0:= @bm 23 w ab ae aa af aq cc (by decide)
 rw [hm] at c0
 have c1:= @eL ab d0 d1
 exact (ib (d:= .int .i64 (lg ab)) ([aw c0]++Xg 11 tF++ [aw c1])).to (by rfl)
theorem uE:eo 24:=by
 intro w ab ae aa af aq cc d0 d1 s0 s1 b0 b1 hm
 have c0:= @bm 24 w ab ae aa af aq cc (by decide)
 rw [hm] at c0
 have c1:= @J7 0 (by decide) (by decide) 2 (by decide) (by decide)
 exact (ib (d:= .int .i64 5) ([aw c0]++Xg 8 tF++ [tT,aw c1])).to (by rfl)
theorem uD:eo 25:=by
 intro w ab ae aa af aq cc d0 d1 s0 s1 b0 b1 hm
 have c0:= @bm 25 w ab ae aa af aq cc (by decide)
 rw [hm] at c0
 have c1:= @eL ab d0 d1
 exact (ib (d:= .int .i64 (lg ab)) ([aw c0]++Xg 11 tF++ [aw c1])).to (by rfl)
theorem uB:eo 26:=by
 intro w ab ae aa af aq cc d0 d1 s0 s1 b0 b1 hm
 have c0:= @bm 26 w ab ae aa af aq cc (by decide)
 rw [hm] at c0
 have c1:= @eL ab d0 d1
 exact (ib (d:= .int .i64 (lg ab)) ([aw c0]++Xg 11 tF++ [aw c1])).to (by rfl)
theorem uA:eo 27:=by
 intro w ab ae aa af aq cc d0 d1 s0 s1 b0 b1 hm
 have c0:= @bm 27 w ab ae aa af aq cc (by decide)
 rw [hm] at c0
 exact (ib (d:= .int .i64 0) [aw c0,tF,tF,tF,tF,tF,tT,tT]).to (by rfl)
theorem uz:eo 28:=by
 intro w ab ae aa af aq cc d0 d1 s0 s1 b0 b1 hm
 have c0:= @bm 28 w ab ae aa af aq cc (by decide)
 rw [hm] at c0
 exact (ib (d:= .int .i64 0) ([aw c0]++bK 8 192)).to (by rfl)
theorem uw:eo 29:=by
 intro w ab ae aa af aq cc d0 d1 s0 s1 b0 b1 hm
 have c0:= @bm 29 w ab ae aa af aq cc (by decide)
 rw [hm] at c0
 exact (ib (d:= .int .i64 0) ([aw c0]++bK 8 128)).to (by rfl)
theorem uv:eo 30:=by
 intro w ab ae aa af aq cc d0 d1 s0 s1 b0 b1 hm
 have c0:= @bm 30 w ab ae aa af aq cc (by decide)
 rw [hm] at c0
 have c1:= @eL 4 (by decide) (by decide)
 exact (ib (d:= .int .i64 16) ([aw c0]++Xg 9 tF++ [tT,aw c1])).to (by rfl)
theorem ur:eo 31:=by
 intro w ab ae aa af aq cc d0 d1 s0 s1 b0 b1 hm
 have c0:= @bm 31 w ab ae aa af aq cc (by decide)
 rw [hm] at c0
 exact (ib (d:= .int .i64 2051) ([aw c0]++Xg 10 tF++([tT,aW,.go 64]++bK 10 511))).to (by rfl)
theorem uq (op w ab ae aa af aq cc:Int) (ho:op≤127) (hm:a8 op w ab ae aa af aq cc=false):aY Xh 157 ([xD op w ab ae aa af aq cc]) (ao 0):=by
 have c0:= @bm op w ab ae aa af aq cc ho
 rw [hm] at c0
 exact (ib (d:= .int .i64 0) [aw c0,tT]).to (by simp [wk])
theorem CL {op w ab ae aa af aq cc:Int} (h:a8 op w ab ae aa af aq cc=true):aF op≠0:=by
 have hs:=(ef h).2
 intro e
 rw [e] at hs
 simp [br] at hs
theorem b8 (op w ab ae aa af aq cc:Int) (ho:op≤127):aY Xh 157 [xD op w ab ae aa af aq cc] (ao (kS op w ab ae aa af aq cc)):=by
 unfold kS
 cases h:a8 op w ab ae aa af aq cc
 ·simp only [Bool.false_eq_true,if_false]
  exact uq op w ab ae aa af aq cc ho h
 ·simp only [if_true]
  obtain ⟨⟨d0,d1,s0,s1,b0,b1,p0,p1,i0,i1⟩,hs⟩:=ef h
  have Tf:=CL h
  clear hs
  rcases iG Tf with rfl|rfl|rfl|rfl|rfl|rfl|rfl|rfl|rfl|rfl|rfl|rfl|rfl|rfl|rfl|rfl|rfl|rfl|rfl|rfl|rfl|rfl|rfl|rfl|rfl|rfl|rfl|rfl|rfl|rfl|rfl|rfl
  ·exact xG _ _ _ _ _ _ _ d0 d1 s0 s1 b0 b1 h
  ·exact xF _ _ _ _ _ _ _ d0 d1 s0 s1 b0 b1 h
  ·exact xE _ _ _ _ _ _ _ d0 d1 s0 s1 b0 b1 h
  ·exact xB _ _ _ _ _ _ _ d0 d1 s0 s1 b0 b1 h
  ·exact xA _ _ _ _ _ _ _ d0 d1 s0 s1 b0 b1 h
  ·exact xz _ _ _ _ _ _ _ d0 d1 s0 s1 b0 b1 h
  ·exact xy _ _ _ _ _ _ _ d0 d1 s0 s1 b0 b1 h
  ·exact xx _ _ _ _ _ _ _ d0 d1 s0 s1 b0 b1 h
  ·exact xw _ _ _ _ _ _ _ d0 d1 s0 s1 b0 b1 h
  ·exact xv _ _ _ _ _ _ _ d0 d1 s0 s1 b0 b1 h
  ·exact uS _ _ _ _ _ _ _ d0 d1 s0 s1 b0 b1 h
  ·exact uR _ _ _ _ _ _ _ d0 d1 s0 s1 b0 b1 h
  ·exact uQ _ _ _ _ _ _ _ d0 d1 s0 s1 b0 b1 h
  ·exact uP _ _ _ _ _ _ _ d0 d1 s0 s1 b0 b1 h
  ·exact uO _ _ _ _ _ _ _ d0 d1 s0 s1 b0 b1 h
  ·exact uN _ _ _ _ _ _ _ d0 d1 s0 s1 b0 b1 h
  ·exact uM _ _ _ _ _ _ _ d0 d1 s0 s1 b0 b1 h
  ·exact uL _ _ _ _ _ _ _ d0 d1 s0 s1 b0 b1 h
  ·exact uK _ _ _ _ _ _ _ d0 d1 s0 s1 b0 b1 h
  ·exact uJ _ _ _ _ _ _ _ d0 d1 s0 s1 b0 b1 h
  ·exact uI _ _ _ _ _ _ _ d0 d1 s0 s1 b0 b1 h
  ·exact uH _ _ _ _ _ _ _ d0 d1 s0 s1 b0 b1 h
  ·exact uG _ _ _ _ _ _ _ d0 d1 s0 s1 b0 b1 h
  ·exact uF _ _ _ _ _ _ _ d0 d1 s0 s1 b0 b1 h
  ·exact uE _ _ _ _ _ _ _ d0 d1 s0 s1 b0 b1 h
  ·exact uD _ _ _ _ _ _ _ d0 d1 s0 s1 b0 b1 h
  ·exact uB _ _ _ _ _ _ _ d0 d1 s0 s1 b0 b1 h
  ·exact uA _ _ _ _ _ _ _ d0 d1 s0 s1 b0 b1 h
  ·exact uz _ _ _ _ _ _ _ d0 d1 s0 s1 b0 b1 h
  ·exact uw _ _ _ _ _ _ _ d0 d1 s0 s1 b0 b1 h
  ·exact uv _ _ _ _ _ _ _ d0 d1 s0 s1 b0 b1 h
  ·exact ur _ _ _ _ _ _ _ d0 d1 s0 s1 b0 b1 h
end Go.Proofs.YtbfpahigdpigpaaGreat
namespace Go.Ev
open Go
theorem P4 (a:Int):a.fdiv 8=a / 8:=Int.fdiv_eq_ediv_of_nonneg _ (by decide)
def QH (n:Int):Prop:=0≤n∧n≤18446744073709551615
theorem wT (v w:Int):bo (bo v w) w=bo v w:=by
 unfold bo
 split
 ·omega
 ·split
  ·omega
  ·split
   ·omega
   ·rfl
def Qc (w k:Int):Int:=YO.i64.wrap ((Xf 64 (w.fdiv (2^(min k.toNat 64)))&&&Xf 64 1).toNat:Int)
def Qr (w ab ae:Int):Bool:=aE w&&aL ab&&aL ae
theorem dX {sh w ab ae aa af aq cc:Int} (h:br sh w ab ae aa af aq cc=true) (hs:sh=1∨sh=2∨sh=3∨sh=4∨sh=5∨sh=6):aE w=true:=by
 rcases hs with rfl|rfl|rfl|rfl|rfl|rfl<;>simp [br] at h<;>first|exact h.1|exact h.1.1|exact h
theorem IG {w ab ae aa af aq cc:Int} (h:br 6 w ab ae aa af aq cc=true):bB cc=true:=by
 simp [br] at h;exact h.2
theorem CK {w ab ae aa af aq cc:Int} (h:br 10 w ab ae aa af aq cc=true):bB cc=true:=by
 simp [br] at h;exact h.2
structure aG where
  (q0 q1 q2 q3 q4 q5 q6 q7 q8 q9 da dj dq dp dn dh:Int)
  (fk fc fz fs fo:Bool)
  (pc:Int)
deriving DecidableEq
def aG.d (m:aG):D:= .agg [aB m.q0,aB m.q1,aB m.q2,aB m.q3,aB m.q4,aB m.q5,aB m.q6,aB m.q7,aB m.q8,aB m.q9,aB m.da,aB m.dj,aB m.dq,aB m.dp,aB m.dn,aB m.dh,ax m.fk,ax m.fc,ax m.fz,ax m.fs,ax m.fo,aB m.pc]
def aG.rl (m:aG):List Int:= [m.q0,m.q1,m.q2,m.q3,m.q4,m.q5,m.q6,m.q7,m.q8,m.q9,m.da,m.dj,m.dq,m.dp,m.dn,m.dh]
def aG.put (m:aG) (i v:Int):aG:=⟨st 0 i v m.q0,st 1 i v m.q1,st 2 i v m.q2,st 3 i v m.q3,st 4 i v m.q4,st 5 i v m.q5,st 6 i v m.q6,st 7 i v m.q7,st 8 i v m.q8,st 9 i v m.q9,st 10 i v m.da,st 11 i v m.dj,st 12 i v m.dq,st 13 i v m.dp,st 14 i v m.dn,st 15 i v m.dh,m.fk,m.fc,m.fz,m.fs,m.fo,m.pc⟩
def aG.flags (m:aG) (k c z s o:Bool):aG:=⟨m.q0,m.q1,m.q2,m.q3,m.q4,m.q5,m.q6,m.q7,m.q8,m.q9,m.da,m.dj,m.dq,m.dp,m.dn,m.dh,k,c,z,s,o,m.pc⟩
def aG.at (m:aG) (v:Int):aG:=⟨m.q0,m.q1,m.q2,m.q3,m.q4,m.q5,m.q6,m.q7,m.q8,m.q9,m.da,m.dj,m.dq,m.dp,m.dn,m.dh,m.fk,m.fc,m.fz,m.fs,m.fo,v⟩
def aG.zero:aG:=⟨0,0,0,0,0,0,0,0,0,0,0,0,0,0,0,0,false,false,false,false,false,0⟩
def XS.len (x:XS):Int:=eY x.op x.w x.ab x.ae x.aa x.af x.aq x.cc
def XS.may (x:XS):Bool:=a8 x.op x.w x.ab x.ae x.aa x.af x.aq x.cc
def Pa (op:Int):Option (Int×Int):=
  match op with
  |2=>some (0,0)
  |3=>some (4,0)
  |4=>some (5,0)
  |5=>some (1,0)
  |6=>some (10,0)
  |7=>some (1,0)
  |8=>some (5,0)
  |9=>some (0,1)
  |10=>some (4,1)
  |11=>some (5,1)
  |12=>some (1,1)
  |13=>some (10,1)
  |14=>some (1,1)
  |15=>some (5,1)
  |16=>some (2,0)
  |17=>some (6,1)
  |18=>some (7,1)
  |19=>some (12,1)
  |20=>some (6,2)
  |21=>some (7,2)
  |22=>some (12,2)
  |23=>some (8,0)
  |_=>none
def Pe (m:aG) (x:XS) (k:Int):Int:=match k with
  |2=>m.q1
  |1=>u64 x.aq
  |_=>rg m.rl x.ae
def L4 (m:aG) (s w a b v:Int):aG:=match s with
  |0=>m.flags true (LF w a b) (bo (u64 (a+b)) w==0) (iX (u64 (a+b)) w) (LD w a b)
  |1=>m.flags true (Dn w a b) (bo (u64 (a - b)) w==0) (iX (u64 (a - b)) w) (Dl w a b)
  |8=>m.flags true (Dn w 0 a) (bo (u64 (0 - a)) w==0) (iX (u64 (0 - a)) w) (Dl w 0 a)
  |4=>m.flags true false (bo v w==0) (iX v w) false
  |5=>m.flags true false (bo v w==0) (iX v w) false
  |10=>m.flags true false (bo v w==0) (iX v w) false
  |_=>m.flags false false false false false
def M9 (op:Int):Bool:=match op with
  |7=>true
  |8=>true
  |14=>true
  |15=>true
  |_=>false
def lF (m:aG) (x:XS) (ld:Int):aG×Int:=match Pa x.op with
  |some (s,k)=>
    let a:=rg m.rl x.ab
    let b:=Pe m x k
    let v:=iO s x.w a b
    match M9 x.op with
    |true=>(L4 m s x.w a b v,0)
    |false=>((L4 m s x.w a b v).put x.ab v,0)
  |none=>match x.op with
    |0=>(m.put x.ab (bo (rg m.rl x.ae) x.w),0)
    |1=>(m.put x.ab (bo (u64 x.aq) x.w),0)
    |24=>match bo (rg m.rl x.ab) x.w==0 with
      |true=>(.zero,20)
      |false=>match bo m.q2 x.w==0 with
        |false=>(.zero,20)
        |true=>(({ m with q0:=u64 ((bo m.q0 x.w).tdiv (bo (rg m.rl x.ab) x.w)),q2:=(bo m.q0 x.w).tmod (bo (rg m.rl x.ab) x.w) }).flags false false false false false,0)
    |25=>match m.fk with
      |false=>(.zero,20)
      |true=>(m.put x.ab (bo (if eR x.cc m.fc m.fz m.fs m.fo then rg m.rl x.ae else rg m.rl x.ab) x.w),0)
    |26=>(m.put x.ab (bo ld x.w),0)
    |28=>(m.at (u64 (m.pc+u64 x.aq)),0)
    |29=>match m.fk with
      |false=>(.zero,20)
      |true=>(m.at (if eR x.cc m.fc m.fz m.fs m.fo then u64 (m.pc+u64 x.aq) else m.pc),0)
    |30=>(({ m with q4:=u64 (m.q4+8) }).at ld,0)
    |31=>({ m with q0:=ld,q1:=0,dj:=0 },0)
    |_=>(m,0)
def hH (m:aG) (x:XS) (ld:Int):aG×Int:=match x.may with
  |false=>(.zero,2)
  |true=>lF (m.at (u64 (m.pc+u64 x.len))) x ld
def P7 (m:aG) (x:XS) (ld:Int):aG:=(hH m x ld).1
def P8 (m:aG) (x:XS) (ld:Int):Int:=(hH m x ld).2
theorem Jg {m:aG} {x:XS} {ld:Int} (h:x.may=false):hH m x ld=(.zero,2):=by unfold hH;rw [h]
theorem ud {m:aG} {x:XS} {ld:Int} (h:x.may=true):hH m x ld=lF (m.at (u64 (m.pc+u64 x.len))) x ld:=by unfold hH;rw [h]
def fC (m:aG) (op w ab ae aa af aq cc:Int):Int:=u64 (m.pc+u64 (eY op w ab ae aa af aq cc))
def xT (op w ab ae aa af aq cc ld:Int):List D:= [aj op,aj w,aj ab,aj ae,aj aa,ao af,ao aq,aj cc,aB ld]
def fT (m:aG) (p:Int) (tl:List D):List D:= .bool m.fk::ax m.fc::ax m.fz::ax m.fs::ax m.fo::aB p::tl
def zC:List D:= [aB 0,aB 0,aB 0,aB 0,aB 0,aB 0,aB 0,aB 0,aB 0,aB 0,aB 0,aB 0,aB 0,aB 0,aB 0,aB 0,ax false,ax false,ax false,ax false,ax false,aB 0]
def aG.cw (m:aG) (p:Int) (tl:List D):List D:= .int .u64 m.q0::aB m.q1::aB m.q2::aB m.q3::aB m.q4::aB m.q5::aB m.q6::aB m.q7::aB m.q8::aB m.q9::aB m.da::aB m.dj::aB m.dq::aB m.dp::aB m.dn::aB m.dh::ax m.fk::ax m.fc::ax m.fz::ax m.fs::ax m.fo::aB p::tl
theorem cF (m:aG) (i:Int) (tl:List D) (h0:0≤i) (h1:i≤15):(D.int .u64 m.q0::D.int .u64 m.q1::D.int .u64 m.q2::D.int .u64 m.q3::D.int .u64 m.q4::D.int .u64 m.q5::D.int .u64 m.q6::D.int .u64 m.q7::D.int .u64 m.q8::D.int .u64 m.q9::D.int .u64 m.da::D.int .u64 m.dj::D.int .u64 m.dq::D.int .u64 m.dp::D.int .u64 m.dn::D.int .u64 m.dh::tl:List D)[0+i.toNat*1]? =some (aB (rg m.rl i)):=mQ h0 h1
theorem ej (m:aG) (i v:Int) (tl:List D) (h0:0≤i) (h1:i≤15):C6 (D.int .u64 m.q0::D.int .u64 m.q1::D.int .u64 m.q2::D.int .u64 m.q3::D.int .u64 m.q4::D.int .u64 m.q5::D.int .u64 m.q6::D.int .u64 m.q7::D.int .u64 m.q8::D.int .u64 m.q9::D.int .u64 m.da::D.int .u64 m.dj::D.int .u64 m.dq::D.int .u64 m.dp::D.int .u64 m.dn::D.int .u64 m.dh::tl:List D) (0+i.toNat*1) [D.int .u64 v] (D.int .u64 (m.put i v).q0::D.int .u64 (m.put i v).q1::D.int .u64 (m.put i v).q2::D.int .u64 (m.put i v).q3::D.int .u64 (m.put i v).q4::D.int .u64 (m.put i v).q5::D.int .u64 (m.put i v).q6::D.int .u64 (m.put i v).q7::D.int .u64 (m.put i v).q8::D.int .u64 (m.put i v).q9::D.int .u64 (m.put i v).da::D.int .u64 (m.put i v).dj::D.int .u64 (m.put i v).dq::D.int .u64 (m.put i v).dp::D.int .u64 (m.put i v).dn::D.int .u64 (m.put i v).dh::tl):=vU h0 h1
def Qe (m:aG) (x:XS):Int×Int×Bool:=
  if x.may=true∧(x.op=26∨x.op=27) then (u64 (rg m.rl x.aa+u64 x.af),x.w / 8,true)
  else if x.may=true∧x.op=30 then (m.q4,8,true)
  else (0,0,false)
def OQ (m:aG) (x:XS):Int:=if x.may=true∧x.op=27 then bo (rg m.rl x.ae) x.w else 0
def Qp (m:aG):Int×Bool:=if 16≤m.q0 then (0,false) else (YO.i64.wrap m.q0,true)
def nr (q:Int):Int:=if 16≤q then 0 else YO.i64.wrap q
def sW (q:Int):Bool:= !decide (16≤q)
theorem MR {q:Int} (h:16≤q):sW q=false:=by unfold sW;simp;omega
theorem Ix {q:Int} (h:decide (q<16)=true):wk (.aQ [ao (YO.i64.wrap q),ax true]) (.aQ [ao (nr q),ax (sW q)]):=by
 rw [bP] at h
 have e:nr q=YO.i64.wrap q:=by unfold nr;rw [if_neg (by omega)]
 have f:sW q=true:=by unfold sW;simp;omega
 rw [e,f];simp [aI]
theorem Iy {q:Int} (h:decide (q<16)=false):wk (.aQ [ao 0,ax false]) (.aQ [ao (nr q),ax (sW q)]):=by
 rw [cq] at h
 have e:nr q=0:=by unfold nr;rw [if_pos (by omega)]
 have f:sW q=false:=MR (by omega)
 rw [e,f];simp [aI]
def Qd (m:aG):List Int:=if 16≤m.q0 then [] else [m.q7,m.q6,m.q2,m.da,m.q8].take (m.q0.toNat%6)
def wD (l:List Int):List D:=l.map (fun x=> .int .u64 x)
def PI (cc:Int):Int×Bool:=
  if cc=0 then (4,true) else if cc=1 then (5,true) else if cc=2 then (7,true) else if cc=3 then (3,true) else if cc=4 then (2,true) else if cc=5 then (6,true)
  else if cc=6 then (15,true) else if cc=7 then (13,true) else if cc=8 then (12,true) else if cc=9 then (14,true) else if cc=10 then (5,true) else (0,false)
def Qy (cc:Int):Int×Bool:=
  if cc=4 then (0,true) else if cc=5 then (1,true) else if cc=7 then (2,true) else if cc=3 then (3,true) else if cc=2 then (4,true) else if cc=6 then (5,true)
  else if cc=15 then (6,true) else if cc=13 then (7,true) else if cc=12 then (8,true) else if cc=14 then (9,true) else (0,false)
theorem P0:type_of%(Xw @a8.eq_1 (Xw @aL.eq_1 (Xw @br.eq_1 (Xw @aE.eq_1 (Xw @ay.eq_1 (Xw @a9.eq_1 (@bB.eq_1))))))):=Xw @a8.eq_1 (Xw @aL.eq_1 (Xw @br.eq_1 (Xw @aE.eq_1 (Xw @ay.eq_1 (Xw @a9.eq_1 (@bB.eq_1))))))
end Go.Ev
namespace Go.Proofs.YtbfpahigdpigpaaGreat
open Go Go.Ev
theorem FR (m:aG) (w ab ae aa af aq cc ld:Int) (d0:0≤ab) (d1:ab≤15) (s0:0≤ae) (s1:ae≤15) (b0:0≤aa) (b1:aa≤15) (hm:a8 2 w ab ae aa af aq cc=true) (hw:aE w=true):aY Xh 83 ([m.d,xD 2 w ab ae aa af aq cc,aB ld]) (.aQ [(lF (m.at (u64 (m.pc+u64 (eY 2 w ab ae aa af aq cc)))) ⟨2,w,ab,ae,aa,af,aq,cc⟩ ld).1.d,ao 0]):=by
 have c0:= @bm 2 w ab ae aa af aq cc (by decide)
 rw [show (a8 2 w ab ae aa af aq cc)=true from hm] at c0
 have c1:= @dc 2 w ab ae aa af aq cc (by decide)
 have c2:= @zh w (rg (aG.rl m) ab) (rg (aG.rl m) ae) hw
 have c3:= @CX w (rg (aG.rl m) ab) (rg (aG.rl m) ae) hw
 have c4:= @b8 2 w ab ae aa af aq cc (by decide)
 exact (lu (d:= .aQ [(lF (m.at (u64 (m.pc+u64 (eY 2 w ab ae aa af aq cc)))) ⟨2,w,ab,ae,aa,af,aq,cc⟩ ld).1.d,ao 0]) ([aw c0,tF,aw c1,tT,tT,aW,aW,.aV [(4,au (aG.cw m (fC m 2 w ab ae aa af aq cc) (xT 2 w ab ae aa af aq cc ld)))],.jQ ([(2,aj 0),(9,aj 0),(3,aj 4),(10,aj 4),(4,aj 5),(11,aj 5),(8,aj 5),(15,aj 5),(5,aj 1),(12,aj 1),(7,aj 1),(14,aj 1),(6,aj 10),(13,aj 10),(16,aj 2),(17,aj 6),(20,aj 6),(18,aj 7),(21,aj 7),(19,aj 12),(22,aj 12),(23,aj 8)]) 2 (some (aj 0)) rfl,.dP _ true (fe d0 d1),.get _ _ _ (@cF m ab ((fT m (fC m 2 w ab ae aa af aq cc) (xT 2 w ab ae aa af aq cc ld))) d0 d1),aW]++Xg 24 tF++ [.dP _ true (fe s0 s1),.get _ _ _ (@cF m ae ((fT m (fC m 2 w ab ae aa af aq cc) (xT 2 w ab ae aa af aq cc ld))) s0 s1),.aV [(4,au (aG.cw m (fC m 2 w ab ae aa af aq cc) (xT 2 w ab ae aa af aq cc ld)))],aw c2,tF,tT,aw c3,aw c4,tC (nt (@jf 2 w ab ae aa af aq cc hm d0 d1 (rfl:true=true))),.dP _ true (fe d0 d1),.dA _ _ _ _ (@ej m ab (iO 0 w (rg (aG.rl m) ab) (rg (aG.rl m) ae)) ([ax true,ax (LF w (rg (aG.rl m) ab) (rg (aG.rl m) ae)),ax (bo (u64 (rg (aG.rl m) ab+rg (aG.rl m) ae)) w==0),ax (iX (u64 (rg (aG.rl m) ab+rg (aG.rl m) ae)) w),ax (LD w (rg (aG.rl m) ab) (rg (aG.rl m) ae)),aB (fC m 2 w ab ae aa af aq cc),aj 2,aj w,aj ab,aj ae,aj aa,ao af,ao aq,aj cc,aB ld]) d0 d1),tF]) (by kernel_rfl))
def PM:List D:= [D.fn (Yo 117) [.ptr false 4 0] [],D.fn (Yo 118) [.ptr false 4 0] [],D.cm,D.cm,D.cm,D.cm,D.cm,D.cm,D.cm,D.cm,D.cm,D.cm,D.cm,D.cm,D.cm,D.cm,D.cm,D.cm,D.cm,D.cm,D.cm,D.cm,D.cm,D.cm,D.fn (Yo 119) [.ptr false 4 0] [],D.fn (Yo 120) [.ptr false 4 0] [],D.fn (Yo 121) [.ptr false 4 0] [],D.fn (Yo 122) [.ptr false 4 0] [],D.fn (Yo 123) [.ptr false 4 0] [],D.fn (Yo 124) [.ptr false 4 0] [],D.fn (Yo 125) [.ptr false 4 0] [],D.fn (Yo 126) [.ptr false 4 0] []]
def qG:List (Int×D):= [((2:Int),aj 0),((9:Int),aj 0),((3:Int),aj 4),((10:Int),aj 4),((4:Int),aj 5),((11:Int),aj 5),((8:Int),aj 5),((15:Int),aj 5),((5:Int),aj 1),((12:Int),aj 1),((7:Int),aj 1),((14:Int),aj 1),((6:Int),aj 10),((13:Int),aj 10),((16:Int),aj 2),((17:Int),aj 6),((20:Int),aj 6),((18:Int),aj 7),((21:Int),aj 7),((19:Int),aj 12),((22:Int),aj 12),((23:Int),aj 8)]
def nJ (Q3:Int):Prop:= ∀(m:aG) (w ab ae aa af aq cc ld:Int) (d0:0≤ab) (d1:ab≤15) (s0:0≤ae) (s1:ae≤15) (b0:0≤aa) (b1:aa≤15) (hm:a8 Q3 w ab ae aa af aq cc=true) (hw:aE w=true),aY Xh 83 ([m.d,xD Q3 w ab ae aa af aq cc,aB ld]) (.aQ [(lF (m.at (u64 (m.pc+u64 (eY Q3 w ab ae aa af aq cc)))) ⟨Q3,w,ab,ae,aa,af,aq,cc⟩ ld).1.d,ao 0])
theorem FQ:nJ 3:=by
 intro m w ab ae aa af aq cc ld d0 d1 s0 s1 b0 b1 hm hw
 have c0:= @bm 3 w ab ae aa af aq cc (by decide)
 rw [hm] at c0
 have c1:= @dc 3 w ab ae aa af aq cc (by decide)
 have c2:= @zg w (rg (aG.rl m) ab) (rg (aG.rl m) ae) hw
 have c3:= @kL w (iO 4 w (rg (aG.rl m) ab) (rg (aG.rl m) ae)) hw
 have c4:= @b8 3 w ab ae aa af aq cc (by decide)
 exact (lu (d:= .aQ [(lF (m.at (u64 (m.pc+u64 (eY 3 w ab ae aa af aq cc)))) ⟨3,w,ab,ae,aa,af,aq,cc⟩ ld).1.d,ao 0]) ([aw c0,tF,aw c1,tT,tT,aW,aW,.aV [(4,au (aG.cw m (fC m 3 w ab ae aa af aq cc) (xT 3 w ab ae aa af aq cc ld)))],.jQ qG 3 (some (aj 4)) rfl,.dP _ true (fe d0 d1),.get _ _ _ (@cF m ab ((fT m (fC m 3 w ab ae aa af aq cc) (xT 3 w ab ae aa af aq cc ld))) d0 d1),aW]++Xg 24 tF++ [.dP _ true (fe s0 s1),.get _ _ _ (@cF m ae ((fT m (fC m 3 w ab ae aa af aq cc) (xT 3 w ab ae aa af aq cc ld))) s0 s1),.aV [(4,au (aG.cw m (fC m 3 w ab ae aa af aq cc) (xT 3 w ab ae aa af aq cc ld)))],aw c2,tF,tF,tF,tF,tT,tT,aw c3,aw c4,tC (nt (@jf 3 w ab ae aa af aq cc hm d0 d1 (rfl:true=true))),.dP _ true (fe d0 d1),.dA _ _ _ _ (@ej m ab (iO 4 w (rg (aG.rl m) ab) (rg (aG.rl m) ae)) ([ax true,ax false,ax (bo (iO 4 w (rg (aG.rl m) ab) (rg (aG.rl m) ae)) w==0),ax (iX (iO 4 w (rg (aG.rl m) ab) (rg (aG.rl m) ae)) w),ax false,aB (fC m 3 w ab ae aa af aq cc),aj 3,aj w,aj ab,aj ae,aj aa,ao af,ao aq,aj cc,aB ld]) d0 d1),tF]) (by kernel_rfl))
theorem FO:nJ 4:=by
 intro m w ab ae aa af aq cc ld d0 d1 s0 s1 b0 b1 hm hw
 have c0:= @bm 4 w ab ae aa af aq cc (by decide)
 rw [hm] at c0
 have c1:= @dc 4 w ab ae aa af aq cc (by decide)
 have c2:= @oE w (rg (aG.rl m) ab) (rg (aG.rl m) ae) hw
 have c3:= @kL w (iO 5 w (rg (aG.rl m) ab) (rg (aG.rl m) ae)) hw
 have c4:= @b8 4 w ab ae aa af aq cc (by decide)
 exact (lu (d:= .aQ [(lF (m.at (u64 (m.pc+u64 (eY 4 w ab ae aa af aq cc)))) ⟨4,w,ab,ae,aa,af,aq,cc⟩ ld).1.d,ao 0]) ([aw c0,tF,aw c1,tT,tT,aW,aW,.aV [(4,au (aG.cw m (fC m 4 w ab ae aa af aq cc) (xT 4 w ab ae aa af aq cc ld)))],.jQ qG 4 (some (aj 5)) rfl,.dP _ true (fe d0 d1),.get _ _ _ (@cF m ab ((fT m (fC m 4 w ab ae aa af aq cc) (xT 4 w ab ae aa af aq cc ld))) d0 d1),aW]++Xg 24 tF++ [.dP _ true (fe s0 s1),.get _ _ _ (@cF m ae ((fT m (fC m 4 w ab ae aa af aq cc) (xT 4 w ab ae aa af aq cc ld))) s0 s1),.aV [(4,au (aG.cw m (fC m 4 w ab ae aa af aq cc) (xT 4 w ab ae aa af aq cc ld)))],aw c2,tF,tF,tF,tF,tF,tT,tT,aw c3,aw c4,tC (nt (@jf 4 w ab ae aa af aq cc hm d0 d1 (rfl:true=true))),.dP _ true (fe d0 d1),.dA _ _ _ _ (@ej m ab (iO 5 w (rg (aG.rl m) ab) (rg (aG.rl m) ae)) ([ax true,ax false,ax (bo (iO 5 w (rg (aG.rl m) ab) (rg (aG.rl m) ae)) w==0),ax (iX (iO 5 w (rg (aG.rl m) ab) (rg (aG.rl m) ae)) w),ax false,aB (fC m 4 w ab ae aa af aq cc),aj 4,aj w,aj ab,aj ae,aj aa,ao af,ao aq,aj cc,aB ld]) d0 d1),tF]) (by kernel_rfl))
theorem FN:nJ 5:=by
 intro m w ab ae aa af aq cc ld d0 d1 s0 s1 b0 b1 hm hw
 have c0:= @bm 5 w ab ae aa af aq cc (by decide)
 rw [hm] at c0
 have c1:= @dc 5 w ab ae aa af aq cc (by decide)
 have c2:= @oG w (rg (aG.rl m) ab) (rg (aG.rl m) ae) hw
 have c3:= @ou w (rg (aG.rl m) ab) (rg (aG.rl m) ae) hw
 have c4:= @b8 5 w ab ae aa af aq cc (by decide)
 exact (lu (d:= .aQ [(lF (m.at (u64 (m.pc+u64 (eY 5 w ab ae aa af aq cc)))) ⟨5,w,ab,ae,aa,af,aq,cc⟩ ld).1.d,ao 0]) ([aw c0,tF,aw c1,tT,tT,aW,aW,.aV [(4,au (aG.cw m (fC m 5 w ab ae aa af aq cc) (xT 5 w ab ae aa af aq cc ld)))],.jQ qG 5 (some (aj 1)) rfl,.dP _ true (fe d0 d1),.get _ _ _ (@cF m ab ((fT m (fC m 5 w ab ae aa af aq cc) (xT 5 w ab ae aa af aq cc ld))) d0 d1),aW]++Xg 24 tF++ [.dP _ true (fe s0 s1),.get _ _ _ (@cF m ae ((fT m (fC m 5 w ab ae aa af aq cc) (xT 5 w ab ae aa af aq cc ld))) s0 s1),.aV [(4,au (aG.cw m (fC m 5 w ab ae aa af aq cc) (xT 5 w ab ae aa af aq cc ld)))],aw c2,tF,tF,tT,aw c3,aw c4,tC (nt (@jf 5 w ab ae aa af aq cc hm d0 d1 (rfl:true=true))),.dP _ true (fe d0 d1),.dA _ _ _ _ (@ej m ab (iO 1 w (rg (aG.rl m) ab) (rg (aG.rl m) ae)) ([ax true,ax (Dn w (rg (aG.rl m) ab) (rg (aG.rl m) ae)),ax (bo (u64 (rg (aG.rl m) ab - rg (aG.rl m) ae)) w==0),ax (iX (u64 (rg (aG.rl m) ab - rg (aG.rl m) ae)) w),ax (Dl w (rg (aG.rl m) ab) (rg (aG.rl m) ae)),aB (fC m 5 w ab ae aa af aq cc),aj 5,aj w,aj ab,aj ae,aj aa,ao af,ao aq,aj cc,aB ld]) d0 d1),tF]) (by kernel_rfl))
theorem FM:nJ 6:=by
 intro m w ab ae aa af aq cc ld d0 d1 s0 s1 b0 b1 hm hw
 have c0:= @bm 6 w ab ae aa af aq cc (by decide)
 rw [hm] at c0
 have c1:= @dc 6 w ab ae aa af aq cc (by decide)
 have c2:= @uo w (rg (aG.rl m) ab) (rg (aG.rl m) ae) hw
 have c3:= @kL w (iO 10 w (rg (aG.rl m) ab) (rg (aG.rl m) ae)) hw
 have c4:= @b8 6 w ab ae aa af aq cc (by decide)
 exact (lu (d:= .aQ [(lF (m.at (u64 (m.pc+u64 (eY 6 w ab ae aa af aq cc)))) ⟨6,w,ab,ae,aa,af,aq,cc⟩ ld).1.d,ao 0]) ([aw c0,tF,aw c1,tT,tT,aW,aW,.aV [(4,au (aG.cw m (fC m 6 w ab ae aa af aq cc) (xT 6 w ab ae aa af aq cc ld)))],.jQ qG 6 (some (aj 10)) rfl,.dP _ true (fe d0 d1),.get _ _ _ (@cF m ab ((fT m (fC m 6 w ab ae aa af aq cc) (xT 6 w ab ae aa af aq cc ld))) d0 d1),aW]++Xg 24 tF++ [.dP _ true (fe s0 s1),.get _ _ _ (@cF m ae ((fT m (fC m 6 w ab ae aa af aq cc) (xT 6 w ab ae aa af aq cc ld))) s0 s1),.aV [(4,au (aG.cw m (fC m 6 w ab ae aa af aq cc) (xT 6 w ab ae aa af aq cc ld)))],aw c2,tF,tF,tF,tF,tF,tF,tT,aw c3,aw c4,tC (nt (@jf 6 w ab ae aa af aq cc hm d0 d1 (rfl:true=true))),.dP _ true (fe d0 d1),.dA _ _ _ _ (@ej m ab (iO 10 w (rg (aG.rl m) ab) (rg (aG.rl m) ae)) ([ax true,ax false,ax (bo (iO 10 w (rg (aG.rl m) ab) (rg (aG.rl m) ae)) w==0),ax (iX (iO 10 w (rg (aG.rl m) ab) (rg (aG.rl m) ae)) w),ax false,aB (fC m 6 w ab ae aa af aq cc),aj 6,aj w,aj ab,aj ae,aj aa,ao af,ao aq,aj cc,aB ld]) d0 d1),tF]) (by kernel_rfl))
theorem FL:nJ 7:=by
 intro m w ab ae aa af aq cc ld d0 d1 s0 s1 b0 b1 hm hw
 have c0:= @bm 7 w ab ae aa af aq cc (by decide)
 rw [hm] at c0
 have c1:= @dc 7 w ab ae aa af aq cc (by decide)
 have c2:= @oG w (rg (aG.rl m) ab) (rg (aG.rl m) ae) hw
 have c3:= @ou w (rg (aG.rl m) ab) (rg (aG.rl m) ae) hw
 have c4:= @b8 7 w ab ae aa af aq cc (by decide)
 exact (lu (d:= .aQ [(lF (m.at (u64 (m.pc+u64 (eY 7 w ab ae aa af aq cc)))) ⟨7,w,ab,ae,aa,af,aq,cc⟩ ld).1.d,ao 0]) ([aw c0,tF,aw c1,tT,tT,aW,aW,.aV [(4,au (aG.cw m (fC m 7 w ab ae aa af aq cc) (xT 7 w ab ae aa af aq cc ld)))],.jQ qG 7 (some (aj 1)) rfl,.dP _ true (fe d0 d1),.get _ _ _ (@cF m ab ((fT m (fC m 7 w ab ae aa af aq cc) (xT 7 w ab ae aa af aq cc ld))) d0 d1),aW]++Xg 24 tF++ [.dP _ true (fe s0 s1),.get _ _ _ (@cF m ae ((fT m (fC m 7 w ab ae aa af aq cc) (xT 7 w ab ae aa af aq cc ld))) s0 s1),.aV [(4,au (aG.cw m (fC m 7 w ab ae aa af aq cc) (xT 7 w ab ae aa af aq cc ld)))],aw c2,tF,tF,tT,aw c3,aw c4,tC (nt (cP 0 true (eq_of_beq (@JX 7 w ab ae aa af aq cc (rfl:false=false))))),tF]) (by kernel_rfl))
theorem FK:nJ 8:=by
 intro m w ab ae aa af aq cc ld d0 d1 s0 s1 b0 b1 hm hw
 have c0:= @bm 8 w ab ae aa af aq cc (by decide)
 rw [hm] at c0
 have c1:= @dc 8 w ab ae aa af aq cc (by decide)
 have c2:= @oE w (rg (aG.rl m) ab) (rg (aG.rl m) ae) hw
 have c3:= @kL w (iO 5 w (rg (aG.rl m) ab) (rg (aG.rl m) ae)) hw
 have c4:= @b8 8 w ab ae aa af aq cc (by decide)
 exact (lu (d:= .aQ [(lF (m.at (u64 (m.pc+u64 (eY 8 w ab ae aa af aq cc)))) ⟨8,w,ab,ae,aa,af,aq,cc⟩ ld).1.d,ao 0]) ([aw c0,tF,aw c1,tT,tT,aW,aW,.aV [(4,au (aG.cw m (fC m 8 w ab ae aa af aq cc) (xT 8 w ab ae aa af aq cc ld)))],.jQ qG 8 (some (aj 5)) rfl,.dP _ true (fe d0 d1),.get _ _ _ (@cF m ab ((fT m (fC m 8 w ab ae aa af aq cc) (xT 8 w ab ae aa af aq cc ld))) d0 d1),aW]++Xg 24 tF++ [.dP _ true (fe s0 s1),.get _ _ _ (@cF m ae ((fT m (fC m 8 w ab ae aa af aq cc) (xT 8 w ab ae aa af aq cc ld))) s0 s1),.aV [(4,au (aG.cw m (fC m 8 w ab ae aa af aq cc) (xT 8 w ab ae aa af aq cc ld)))],aw c2,tF,tF,tF,tF,tF,tT,tT,aw c3,aw c4,tC (nt (cP 0 true (eq_of_beq (@JX 8 w ab ae aa af aq cc (rfl:false=false))))),tF]) (by kernel_rfl))
theorem A7:nJ 12:=by
 intro m w ab ae aa af aq cc ld d0 d1 s0 s1 b0 b1 hm hw
 have c0:= @bm 12 w ab ae aa af aq cc (by decide)
 rw [hm] at c0
 have c1:= @dc 12 w ab ae aa af aq cc (by decide)
 have c2:= @oG w (rg (aG.rl m) ab) (YO.wrap YO.u64 aq) hw
 have c3:= @ou w (rg (aG.rl m) ab) (YO.wrap YO.u64 aq) hw
 have c4:= @b8 12 w ab ae aa af aq cc (by decide)
 exact (lu (d:= .aQ [(lF (m.at (u64 (m.pc+u64 (eY 12 w ab ae aa af aq cc)))) ⟨12,w,ab,ae,aa,af,aq,cc⟩ ld).1.d,ao 0]) ([aw c0,tF,aw c1,tT,tT,aW,aW,.aV [(4,au (aG.cw m (fC m 12 w ab ae aa af aq cc) (xT 12 w ab ae aa af aq cc ld)))],.jQ qG 12 (some (aj 1)) rfl,.dP _ true (fe d0 d1),.get _ _ _ (@cF m ab ((fT m (fC m 12 w ab ae aa af aq cc) (xT 12 w ab ae aa af aq cc ld))) d0 d1),aW]++Xg 8 tF++Xg 9 tT++ [.aV [(4,au (aG.cw m (fC m 12 w ab ae aa af aq cc) (xT 12 w ab ae aa af aq cc ld)))],aw c2,tF,tF,tT,aw c3,aw c4,tC (nt (@jf 12 w ab ae aa af aq cc hm d0 d1 (rfl:true=true))),.dP _ true (fe d0 d1),.dA _ _ _ _ (@ej m ab (iO 1 w (rg (aG.rl m) ab) (YO.wrap YO.u64 aq)) ([ax true,ax (Dn w (rg (aG.rl m) ab) (YO.wrap YO.u64 aq)),ax (bo (u64 (rg (aG.rl m) ab - YO.wrap YO.u64 aq)) w==0),ax (iX (u64 (rg (aG.rl m) ab - YO.wrap YO.u64 aq)) w),ax (Dl w (rg (aG.rl m) ab) (YO.wrap YO.u64 aq)),aB (fC m 12 w ab ae aa af aq cc),aj 12,aj w,aj ab,aj ae,aj aa,ao af,ao aq,aj cc,aB ld]) d0 d1),tF]) (by kernel_rfl))
def PL:List D:= [D.fn (Yo 117) [.ptr false 4 0] [],D.fn (Yo 118) [.ptr false 4 0] [],D.cm,D.cm,D.cm,D.cm,D.cm,D.cm,D.cm,D.cm,D.cm,D.cm,D.cm,D.cm,D.cm,D.cm,D.cm,D.cm,D.cm,D.cm,D.cm,D.cm,D.cm,D.cm,D.fn (Yo 119) [.ptr false 4 0] [],D.fn (Yo 120) [.ptr false 4 0] [],D.fn (Yo 121) [.ptr false 4 0] [],D.fn (Yo 122) [.ptr false 4 0] [],D.fn (Yo 123) [.ptr false 4 0] [],D.fn (Yo 124) [.ptr false 4 0] [],D.fn (Yo 125) [.ptr false 4 0] [],D.fn (Yo 126) [.ptr false 4 0] []]
def qF:List (Int×D):= [((2:Int),aj 0),((9:Int),aj 0),((3:Int),aj 4),((10:Int),aj 4),((4:Int),aj 5),((11:Int),aj 5),((8:Int),aj 5),((15:Int),aj 5),((5:Int),aj 1),((12:Int),aj 1),((7:Int),aj 1),((14:Int),aj 1),((6:Int),aj 10),((13:Int),aj 10),((16:Int),aj 2),((17:Int),aj 6),((20:Int),aj 6),((18:Int),aj 7),((21:Int),aj 7),((19:Int),aj 12),((22:Int),aj 12),((23:Int),aj 8)]
def nI (Q3:Int):Prop:= ∀(m:aG) (w ab ae aa af aq cc ld:Int) (d0:0≤ab) (d1:ab≤15) (s0:0≤ae) (s1:ae≤15) (b0:0≤aa) (b1:aa≤15) (hm:a8 Q3 w ab ae aa af aq cc=true) (hw:aE w=true),aY Xh 83 ([m.d,xD Q3 w ab ae aa af aq cc,aB ld]) (.aQ [(lF (m.at (u64 (m.pc+u64 (eY Q3 w ab ae aa af aq cc)))) ⟨Q3,w,ab,ae,aa,af,aq,cc⟩ ld).1.d,ao 0])
theorem A2:nI 17:=by
 intro m w ab ae aa af aq cc ld d0 d1 s0 s1 b0 b1 hm hw
 have c0:= @bm 17 w ab ae aa af aq cc (by decide)
 rw [hm] at c0
 have c1:= @dc 17 w ab ae aa af aq cc (by decide)
 have c2:= @zf w (rg (aG.rl m) ab) (YO.wrap YO.u64 aq) hw
 have c3:= @dv
 have c4:= @b8 17 w ab ae aa af aq cc (by decide)
 exact (lu (d:= .aQ [(lF (m.at (u64 (m.pc+u64 (eY 17 w ab ae aa af aq cc)))) ⟨17,w,ab,ae,aa,af,aq,cc⟩ ld).1.d,ao 0]) ([aw c0,tF,aw c1,tT,tT,aW,aW,.aV [(4,au (aG.cw m (fC m 17 w ab ae aa af aq cc) (xT 17 w ab ae aa af aq cc ld)))],.jQ qF 17 (some (aj 6)) rfl,.dP _ true (fe d0 d1),.get _ _ _ (@cF m ab ((fT m (fC m 17 w ab ae aa af aq cc) (xT 17 w ab ae aa af aq cc ld))) d0 d1),aW]++Xg 8 tF++(bK 8 127)++Xg 8 tT++ [.aV [(4,au (aG.cw m (fC m 17 w ab ae aa af aq cc) (xT 17 w ab ae aa af aq cc ld)))],aw c2,tF,tF,tF,tF,tF,tF,tF,aw c3,aw c4,tC (nt (@jf 17 w ab ae aa af aq cc hm d0 d1 (rfl:true=true))),.dP _ true (fe d0 d1),.dA _ _ _ _ (@ej m ab (iO 6 w (rg (aG.rl m) ab) (YO.wrap YO.u64 aq)) ([ax false,ax false,ax false,ax false,ax false,aB (fC m 17 w ab ae aa af aq cc),aj 17,aj w,aj ab,aj ae,aj aa,ao af,ao aq,aj cc,aB ld]) d0 d1),tF]) (by kernel_rfl))
theorem A1:nI 18:=by
 intro m w ab ae aa af aq cc ld d0 d1 s0 s1 b0 b1 hm hw
 have c0:= @bm 18 w ab ae aa af aq cc (by decide)
 rw [hm] at c0
 have c1:= @dc 18 w ab ae aa af aq cc (by decide)
 have c2:= @ze w (rg (aG.rl m) ab) (YO.wrap YO.u64 aq) hw
 have c3:= @dv
 have c4:= @b8 18 w ab ae aa af aq cc (by decide)
 exact (lu (d:= .aQ [(lF (m.at (u64 (m.pc+u64 (eY 18 w ab ae aa af aq cc)))) ⟨18,w,ab,ae,aa,af,aq,cc⟩ ld).1.d,ao 0]) ([aw c0,tF,aw c1,tT,tT,aW,aW,.aV [(4,au (aG.cw m (fC m 18 w ab ae aa af aq cc) (xT 18 w ab ae aa af aq cc ld)))],.jQ qF 18 (some (aj 7)) rfl,.dP _ true (fe d0 d1),.get _ _ _ (@cF m ab ((fT m (fC m 18 w ab ae aa af aq cc) (xT 18 w ab ae aa af aq cc ld))) d0 d1),aW]++Xg 8 tF++(bK 8 127)++Xg 8 tT++ [.aV [(4,au (aG.cw m (fC m 18 w ab ae aa af aq cc) (xT 18 w ab ae aa af aq cc ld)))],aw c2,tF,tF,tF,tF,tF,tF,tF,aw c3,aw c4,tC (nt (@jf 18 w ab ae aa af aq cc hm d0 d1 (rfl:true=true))),.dP _ true (fe d0 d1),.dA _ _ _ _ (@ej m ab (iO 7 w (rg (aG.rl m) ab) (YO.wrap YO.u64 aq)) ([ax false,ax false,ax false,ax false,ax false,aB (fC m 18 w ab ae aa af aq cc),aj 18,aj w,aj ab,aj ae,aj aa,ao af,ao aq,aj cc,aB ld]) d0 d1),tF]) (by kernel_rfl))
theorem A0:nI 19:=by
 intro m w ab ae aa af aq cc ld d0 d1 s0 s1 b0 b1 hm hw
 have c0:= @bm 19 w ab ae aa af aq cc (by decide)
 rw [hm] at c0
 have c1:= @dc 19 w ab ae aa af aq cc (by decide)
 have c2:= @um w (rg (aG.rl m) ab) (YO.wrap YO.u64 aq) hw
 have c3:= @dv
 have c4:= @b8 19 w ab ae aa af aq cc (by decide)
 exact (lu (d:= .aQ [(lF (m.at (u64 (m.pc+u64 (eY 19 w ab ae aa af aq cc)))) ⟨19,w,ab,ae,aa,af,aq,cc⟩ ld).1.d,ao 0]) ([aw c0,tF,aw c1,tT,tT,aW,aW,.aV [(4,au (aG.cw m (fC m 19 w ab ae aa af aq cc) (xT 19 w ab ae aa af aq cc ld)))],.jQ qF 19 (some (aj 12)) rfl,.dP _ true (fe d0 d1),.get _ _ _ (@cF m ab ((fT m (fC m 19 w ab ae aa af aq cc) (xT 19 w ab ae aa af aq cc ld))) d0 d1),aW]++Xg 8 tF++(bK 8 127)++Xg 8 tT++ [.aV [(4,au (aG.cw m (fC m 19 w ab ae aa af aq cc) (xT 19 w ab ae aa af aq cc ld)))],aw c2,tF,tF,tF,tF,tF,tF,tF,aw c3,aw c4,tC (nt (@jf 19 w ab ae aa af aq cc hm d0 d1 (rfl:true=true))),.dP _ true (fe d0 d1),.dA _ _ _ _ (@ej m ab (iO 12 w (rg (aG.rl m) ab) (YO.wrap YO.u64 aq)) ([ax false,ax false,ax false,ax false,ax false,aB (fC m 19 w ab ae aa af aq cc),aj 19,aj w,aj ab,aj ae,aj aa,ao af,ao aq,aj cc,aB ld]) d0 d1),tF]) (by kernel_rfl))
theorem AZ:nI 20:=by
 intro m w ab ae aa af aq cc ld d0 d1 s0 s1 b0 b1 hm hw
 have c0:= @bm 20 w ab ae aa af aq cc (by decide)
 rw [hm] at c0
 have c1:= @dc 20 w ab ae aa af aq cc (by decide)
 have c2:= @zf w (rg (aG.rl m) ab) (aG.q1 m) hw
 have c3:= @dv
 have c4:= @b8 20 w ab ae aa af aq cc (by decide)
 exact (lu (d:= .aQ [(lF (m.at (u64 (m.pc+u64 (eY 20 w ab ae aa af aq cc)))) ⟨20,w,ab,ae,aa,af,aq,cc⟩ ld).1.d,ao 0]) ([aw c0,tF,aw c1,tT,tT,aW,aW,.aV [(4,au (aG.cw m (fC m 20 w ab ae aa af aq cc) (xT 20 w ab ae aa af aq cc ld)))],.jQ qF 20 (some (aj 6)) rfl,.dP _ true (fe d0 d1),.get _ _ _ (@cF m ab ((fT m (fC m 20 w ab ae aa af aq cc) (xT 20 w ab ae aa af aq cc ld))) d0 d1),aW]++Xg 8 tT++ [.aV [(4,au (aG.cw m (fC m 20 w ab ae aa af aq cc) (xT 20 w ab ae aa af aq cc ld)))],aw c2,tF,tF,tF,tF,tF,tF,tF,aw c3,aw c4,tC (nt (@jf 20 w ab ae aa af aq cc hm d0 d1 (rfl:true=true))),.dP _ true (fe d0 d1),.dA _ _ _ _ (@ej m ab (iO 6 w (rg (aG.rl m) ab) (aG.q1 m)) ([ax false,ax false,ax false,ax false,ax false,aB (fC m 20 w ab ae aa af aq cc),aj 20,aj w,aj ab,aj ae,aj aa,ao af,ao aq,aj cc,aB ld]) d0 d1),tF]) (by kernel_rfl))
theorem AY:nI 21:=by
 intro m w ab ae aa af aq cc ld d0 d1 s0 s1 b0 b1 hm hw
 have c0:= @bm 21 w ab ae aa af aq cc (by decide)
 rw [hm] at c0
 have c1:= @dc 21 w ab ae aa af aq cc (by decide)
 have c2:= @ze w (rg (aG.rl m) ab) (aG.q1 m) hw
 have c3:= @dv
 have c4:= @b8 21 w ab ae aa af aq cc (by decide)
 exact (lu (d:= .aQ [(lF (m.at (u64 (m.pc+u64 (eY 21 w ab ae aa af aq cc)))) ⟨21,w,ab,ae,aa,af,aq,cc⟩ ld).1.d,ao 0]) ([aw c0,tF,aw c1,tT,tT,aW,aW,.aV [(4,au (aG.cw m (fC m 21 w ab ae aa af aq cc) (xT 21 w ab ae aa af aq cc ld)))],.jQ qF 21 (some (aj 7)) rfl,.dP _ true (fe d0 d1),.get _ _ _ (@cF m ab ((fT m (fC m 21 w ab ae aa af aq cc) (xT 21 w ab ae aa af aq cc ld))) d0 d1),aW]++Xg 8 tT++ [.aV [(4,au (aG.cw m (fC m 21 w ab ae aa af aq cc) (xT 21 w ab ae aa af aq cc ld)))],aw c2,tF,tF,tF,tF,tF,tF,tF,aw c3,aw c4,tC (nt (@jf 21 w ab ae aa af aq cc hm d0 d1 (rfl:true=true))),.dP _ true (fe d0 d1),.dA _ _ _ _ (@ej m ab (iO 7 w (rg (aG.rl m) ab) (aG.q1 m)) ([ax false,ax false,ax false,ax false,ax false,aB (fC m 21 w ab ae aa af aq cc),aj 21,aj w,aj ab,aj ae,aj aa,ao af,ao aq,aj cc,aB ld]) d0 d1),tF]) (by kernel_rfl))
theorem AX:nI 22:=by
 intro m w ab ae aa af aq cc ld d0 d1 s0 s1 b0 b1 hm hw
 have c0:= @bm 22 w ab ae aa af aq cc (by decide)
 rw [hm] at c0
 have c1:= @dc 22 w ab ae aa af aq cc (by decide)
 have c2:= @um w (rg (aG.rl m) ab) (aG.q1 m) hw
 have c3:= @dv
 have c4:= @b8 22 w ab ae aa af aq cc (by decide)
 exact (lu (d:= .aQ [(lF (m.at (u64 (m.pc+u64 (eY 22 w ab ae aa af aq cc)))) ⟨22,w,ab,ae,aa,af,aq,cc⟩ ld).1.d,ao 0]) ([aw c0,tF,aw c1,tT,tT,aW,aW,.aV [(4,au (aG.cw m (fC m 22 w ab ae aa af aq cc) (xT 22 w ab ae aa af aq cc ld)))],.jQ qF 22 (some (aj 12)) rfl,.dP _ true (fe d0 d1),.get _ _ _ (@cF m ab ((fT m (fC m 22 w ab ae aa af aq cc) (xT 22 w ab ae aa af aq cc ld))) d0 d1),aW]++Xg 8 tT++ [.aV [(4,au (aG.cw m (fC m 22 w ab ae aa af aq cc) (xT 22 w ab ae aa af aq cc ld)))],aw c2,tF,tF,tF,tF,tF,tF,tF,aw c3,aw c4,tC (nt (@jf 22 w ab ae aa af aq cc hm d0 d1 (rfl:true=true))),.dP _ true (fe d0 d1),.dA _ _ _ _ (@ej m ab (iO 12 w (rg (aG.rl m) ab) (aG.q1 m)) ([ax false,ax false,ax false,ax false,ax false,aB (fC m 22 w ab ae aa af aq cc),aj 22,aj w,aj ab,aj ae,aj aa,ao af,ao aq,aj cc,aB ld]) d0 d1),tF]) (by kernel_rfl))
theorem AW:nI 23:=by
 intro m w ab ae aa af aq cc ld d0 d1 s0 s1 b0 b1 hm hw
 have c0:= @bm 23 w ab ae aa af aq cc (by decide)
 rw [hm] at c0
 have c1:= @dc 23 w ab ae aa af aq cc (by decide)
 have c2:= @Jz w (rg (aG.rl m) ab) (rg (aG.rl m) ae) hw
 have c3:= @ou w 0 (rg (aG.rl m) ab) hw
 have c4:= @b8 23 w ab ae aa af aq cc (by decide)
 exact (lu (d:= .aQ [(lF (m.at (u64 (m.pc+u64 (eY 23 w ab ae aa af aq cc)))) ⟨23,w,ab,ae,aa,af,aq,cc⟩ ld).1.d,ao 0]) (([aw c0,tF,aw c1,tT,tT,aW,aW,.aV [(4,au (aG.cw m (fC m 23 w ab ae aa af aq cc) (xT 23 w ab ae aa af aq cc ld)))],.jQ qF 23 (some (aj 8)) rfl,.dP _ true (fe d0 d1),.get _ _ _ (@cF m ab ((fT m (fC m 23 w ab ae aa af aq cc) (xT 23 w ab ae aa af aq cc ld))) d0 d1),aW]++bK 24 8355711++ [.dP _ true (fe s0 s1),.get _ _ _ (@cF m ae ((fT m (fC m 23 w ab ae aa af aq cc) (xT 23 w ab ae aa af aq cc ld))) s0 s1),.aV [(4,au (aG.cw m (fC m 23 w ab ae aa af aq cc) (xT 23 w ab ae aa af aq cc ld)))],aw c2,tF,tF,tF,tT,aw c3,aw c4,tC (nt (@jf 23 w ab ae aa af aq cc hm d0 d1 (rfl:true=true))),.dP _ true (fe d0 d1),.dA _ _ _ _ (@ej m ab (iO 8 w (rg (aG.rl m) ab) (rg (aG.rl m) ae)) ([ax true,ax (Dn w 0 (rg (aG.rl m) ab)),ax (bo (u64 (0 - rg (aG.rl m) ab)) w==0),ax (iX (u64 (0 - rg (aG.rl m) ab)) w),ax (Dl w 0 (rg (aG.rl m) ab)),aB (fC m 23 w ab ae aa af aq cc),aj 23,aj w,aj ab,aj ae,aj aa,ao af,ao aq,aj cc,aB ld]) d0 d1)])++ [tF]) (by kernel_rfl))
def PK:List D:= [D.fn (Yo 117) [.ptr false 4 0] [],D.fn (Yo 118) [.ptr false 4 0] [],D.cm,D.cm,D.cm,D.cm,D.cm,D.cm,D.cm,D.cm,D.cm,D.cm,D.cm,D.cm,D.cm,D.cm,D.cm,D.cm,D.cm,D.cm,D.cm,D.cm,D.cm,D.cm,D.fn (Yo 119) [.ptr false 4 0] [],D.fn (Yo 120) [.ptr false 4 0] [],D.fn (Yo 121) [.ptr false 4 0] [],D.fn (Yo 122) [.ptr false 4 0] [],D.fn (Yo 123) [.ptr false 4 0] [],D.fn (Yo 124) [.ptr false 4 0] [],D.fn (Yo 125) [.ptr false 4 0] [],D.fn (Yo 126) [.ptr false 4 0] []]
def nH (Q3:Int):Prop:= ∀(m:aG) (w ab ae aa af aq cc ld:Int) (d0:0≤ab) (d1:ab≤15) (s0:0≤ae) (s1:ae≤15) (b0:0≤aa) (b1:aa≤15) (hm:a8 Q3 w ab ae aa af aq cc=true),aY Xh 83 ([m.d,xD Q3 w ab ae aa af aq cc,aB ld]) (.aQ [(lF (m.at (u64 (m.pc+u64 (eY Q3 w ab ae aa af aq cc)))) ⟨Q3,w,ab,ae,aa,af,aq,cc⟩ ld).1.d,ao 0])
theorem FU:nH 0:=by
 intro m w ab ae aa af aq cc ld d0 d1 s0 s1 b0 b1 hm
 have c0:= @bm 0 w ab ae aa af aq cc (by decide)
 rw [show (a8 0 w ab ae aa af aq cc)=true from hm] at c0
 have c1:= @dc 0 w ab ae aa af aq cc (by decide)
 have c2:= @cL (rg (aG.rl m) ae) w
 exact (lu (d:= .aQ [(lF (m.at (u64 (m.pc+u64 (eY 0 w ab ae aa af aq cc)))) ⟨0,w,ab,ae,aa,af,aq,cc⟩ ld).1.d,ao 0]) [aw c0,tF,aw c1,tT,tF,aW,.dP _ true (fe s0 s1),.get _ _ _ (@cF m ae ((fT m (fC m 0 w ab ae aa af aq cc) (xT 0 w ab ae aa af aq cc ld))) s0 s1),aW,aw c2,.dP _ true (fe d0 d1),.dA _ _ _ _ (@ej m ab (bo (rg (aG.rl m) ae) w) ((fT m (fC m 0 w ab ae aa af aq cc) (xT 0 w ab ae aa af aq cc ld))) d0 d1),tF] (by kernel_rfl))
theorem FT:nH 1:=by
 intro m w ab ae aa af aq cc ld d0 d1 s0 s1 b0 b1 hm
 have c0:= @bm 1 w ab ae aa af aq cc (by decide)
 rw [show (a8 1 w ab ae aa af aq cc)=true from hm] at c0
 have c1:= @dc 1 w ab ae aa af aq cc (by decide)
 have c2:= @cL (YO.wrap YO.u64 aq) w
 exact (lu (d:= .aQ [(lF (m.at (u64 (m.pc+u64 (eY 1 w ab ae aa af aq cc)))) ⟨1,w,ab,ae,aa,af,aq,cc⟩ ld).1.d,ao 0]) [aw c0,tF,aw c1,tT,tF,aW,aW,aw c2,.dP _ true (fe d0 d1),.dA _ _ _ _ (@ej m ab (bo (YO.wrap YO.u64 aq) w) ((fT m (fC m 1 w ab ae aa af aq cc) (xT 1 w ab ae aa af aq cc ld))) d0 d1),tF] (by kernel_rfl))
theorem AR:nH 26:=by
 intro m w ab ae aa af aq cc ld d0 d1 s0 s1 b0 b1 hm
 have c0:= @bm 26 w ab ae aa af aq cc (by decide)
 rw [show (a8 26 w ab ae aa af aq cc)=true from hm] at c0
 have c1:= @dc 26 w ab ae aa af aq cc (by decide)
 have c2:= @cL ld w
 exact (lu (d:= .aQ [(lF (m.at (u64 (m.pc+u64 (eY 26 w ab ae aa af aq cc)))) ⟨26,w,ab,ae,aa,af,aq,cc⟩ ld).1.d,ao 0]) [aw c0,tF,aw c1,tT,tF,aW,aW,aw c2,.dP _ true (fe d0 d1),.dA _ _ _ _ (@ej m ab (bo ld w) ((fT m (fC m 26 w ab ae aa af aq cc) (xT 26 w ab ae aa af aq cc ld))) d0 d1),tF] (by kernel_rfl))
theorem AQ:nH 27:=by
 intro m w ab ae aa af aq cc ld d0 d1 s0 s1 b0 b1 hm
 have c0:= @bm 27 w ab ae aa af aq cc (by decide)
 rw [show (a8 27 w ab ae aa af aq cc)=true from hm] at c0
 have c1:= @dc 27 w ab ae aa af aq cc (by decide)
 exact (lu (d:= .aQ [(lF (m.at (u64 (m.pc+u64 (eY 27 w ab ae aa af aq cc)))) ⟨27,w,ab,ae,aa,af,aq,cc⟩ ld).1.d,ao 0]) [aw c0,tF,aw c1,tT,tF,aW,tF] (by kernel_rfl))
theorem AP:nH 28:=by
 intro m w ab ae aa af aq cc ld d0 d1 s0 s1 b0 b1 hm
 have c0:= @bm 28 w ab ae aa af aq cc (by decide)
 rw [show (a8 28 w ab ae aa af aq cc)=true from hm] at c0
 have c1:= @dc 28 w ab ae aa af aq cc (by decide)
 exact (lu (d:= .aQ [(lF (m.at (u64 (m.pc+u64 (eY 28 w ab ae aa af aq cc)))) ⟨28,w,ab,ae,aa,af,aq,cc⟩ ld).1.d,ao 0]) [aw c0,tF,aw c1,tT,tF,aW,tF] (by kernel_rfl))
theorem AN:nH 30:=by
 intro m w ab ae aa af aq cc ld d0 d1 s0 s1 b0 b1 hm
 have c0:= @bm 30 w ab ae aa af aq cc (by decide)
 rw [show (a8 30 w ab ae aa af aq cc)=true from hm] at c0
 have c1:= @dc 30 w ab ae aa af aq cc (by decide)
 exact (lu (d:= .aQ [(lF (m.at (u64 (m.pc+u64 (eY 30 w ab ae aa af aq cc)))) ⟨30,w,ab,ae,aa,af,aq,cc⟩ ld).1.d,ao 0]) [aw c0,tF,aw c1,tT,tF,aW,tF] (by kernel_rfl))
theorem AM:nH 31:=by
 intro m w ab ae aa af aq cc ld d0 d1 s0 s1 b0 b1 hm
 have c0:= @bm 31 w ab ae aa af aq cc (by decide)
 rw [show (a8 31 w ab ae aa af aq cc)=true from hm] at c0
 have c1:= @dc 31 w ab ae aa af aq cc (by decide)
 exact (lu (d:= .aQ [(lF (m.at (u64 (m.pc+u64 (eY 31 w ab ae aa af aq cc)))) ⟨31,w,ab,ae,aa,af,aq,cc⟩ ld).1.d,ao 0]) [aw c0,tF,aw c1,tT,tF,aW,tF] (by kernel_rfl))
end Go.Proofs.YtbfpahigdpigpaaGreat
