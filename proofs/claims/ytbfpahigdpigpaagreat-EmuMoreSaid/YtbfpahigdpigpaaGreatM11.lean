import Derived.Test.YtbfpahigdpigpaaGreatM05
import Derived.Test.YtbfpahigdpigpaaGreatM06
import Derived.Test.YtbfpahigdpigpaaGreatM08
import Derived.Test.YtbfpahigdpigpaaGreatM09
import Derived.Test.YtbfpahigdpigpaaGreatM10
/- Contracts and plain laws that a statement's proof leans on (texts merged:MdK1,MdK2,MdK3,MdK4,MdEm,MdW,MdF2,E0,XS1,XS2,XW,MdE,MdP,MdS,Y1a,Y1b,Y1c,Y1d). -/
set_option linter.unusedVariables false
set_option linter.unusedSimpArgs false
set_option maxRecDepth 100000
set_option maxHeartbeats 8000000
namespace Go.Ev
open Go
def iK.may (x:iK):Bool:=HL x.kind x.op x.width x.size x.dY x.dst x.src x.off x.af
def ID (l:List iK):List D:=l.map iK.d
def BH (i kind off:Int):Bool:=(kind==3||kind==4)&&(decide (-1099511627776≤i∧i≤1099511627776)&&decide (-1099511627776≤off∧off≤1099511627776))
def y8 (i kind off:Int):Int:=if BH i kind off=true then i+1+off else 0
def Dl (n:Int):Int→List iK→Option (Int×Int)
  |_,[]=>none
  |i,x::r=>if x.may=false then some (i,31) else if BH i x.kind x.off=true∧¬(0≤y8 i x.kind x.off∧y8 i x.kind x.off<n) then some (i,32) else Dl n (i+1) r
def sW (l:List iK) (i:Nat):Int:=match l[i]? with|some x=>x.kind|none=>0
def HV (ctx:Int) (l:List iK):Int×Int:=
  if ctx<0∨256<ctx then (0,2) else if l.length<1∨64<l.length then (0,3)
  else match Dl l.length 0 l with
    |some r=>r
    |none=>if sW l (l.length - 1)=4∨sW l (l.length - 1)=6 then (0,0) else (l.length - 1,33)
def BP (k:Int):Bool:=k==3||k==4||k==6
def GM (es:List (Int×D)) (k:Int) (x:iK):List (Int×D):=
  if BH k x.kind x.off=true then jC (if BP x.kind=true then jC es (k+1) (.bool true) else es) (y8 k x.kind x.off) (.bool true)
  else if BP x.kind=true then jC es (k+1) (.bool true) else es
def Hi (l:List iK):Nat→List (Int×D)
  |0=> [(0,.bool true)]
  |k+1=>match l[k]? with
    |some x=>GM (Hi l k) k x
    |none=>Hi l k
def HX (l:List iK) (k:Nat) (i:Int):Bool:=match l[k]? with
  |some x=>(BP x.kind&&i==(k:Int)+1)||(BH k x.kind x.off&&i==y8 k x.kind x.off)
  |none=>false
def Hh (l:List iK) (i:Int):Nat→Bool
  |0=>i==0
  |k+1=>Hh l i k||HX l k i
def IA (l:List iK) (i:Int):Bool:=Hh l i l.length
structure IJ (l:List iK):Prop where
  pos:1≤l.length
  le:l.length≤64
  may:∀j (h:j<l.length),l[j].may=true
  IB:∀j (h:j<l.length),BH j l[j].kind l[j].off=true→0≤y8 j l[j].kind l[j].off∧y8 j l[j].kind l[j].off<l.length
  last:sW l (l.length - 1)=4∨sW l (l.length - 1)=6
theorem bo {l:List D} {i:Nat} {x:D} (h:(i:Int)<(l.length:Int)):yM l i [x] (l.set i x):=by
 refine ⟨?_,by simp;omega⟩
 rw [List.set_eq_take_append_cons_drop,if_pos (by omega)]
 rfl
theorem bq (b:List Int):∀c∈bD b,c.clean=true:=by
 intro c hc
 obtain ⟨n,_,rfl⟩:=List.mem_map.1 hc
 rfl
theorem cN (b:List Int):(bD b).map D.aX=bD b:=by
 simp only [bD,List.map_map]
 rfl
theorem bL (b:List Int):(bD b).all isByte=true:=by
 rw [List.all_eq_true]
 intro c hc
 obtain ⟨n,_,rfl⟩:=List.mem_map.1 hc
 rfl
theorem dh:∀b:List Int,bA (bD b)=some (bD b)
 | []=>rfl
 |a::b=>by
  have ih:=dh b
  unfold bD at ih ⊢
  rw [List.map_cons,bA,ih]
  rfl
theorem jH {n m:Nat} {c:D} {b:List D} (h:b.length=n) (hm:m=n):yM (List.replicate m c) 0 b b:=by
 subst h
 subst hm
 refine ⟨by simp,by simp⟩
theorem C8 {l:List D} {n:Nat} (h:n=l.length):gB l 0 n l:=by
 subst h
 exact ⟨by simp,by simp⟩
theorem yD {l:List D} {i n:Nat} {l':List D} (h:gB l i n l'):gB l i n l':=h
theorem gN {n:Nat} :Nat.ble n (Int.toNat (n:Int))=true:=by rw [Int.toNat_natCast,Nat.ble_eq];exact Nat.le_refl _
theorem kE {id len:Nat} {y n:Int} (n0:1≤n) (n8:n≤8) (hl:len≤16384) (a1:IntKind.u64.wrap y≤len) (a2:n≤len - IntKind.u64.wrap y):
  D.aA [.sub id (0+Int.toNat (IntKind.u64.wrap y)*1) 1 (Int.toNat (IntKind.i64.wrap (IntKind.i64.wrap (IntKind.u64.wrap y)+n)) - Int.toNat (IntKind.u64.wrap y)) (some (Int.toNat (IntKind.i64.wrap (IntKind.i64.wrap (IntKind.u64.wrap y)+n)) - Int.toNat (IntKind.u64.wrap y))),.bool true]=D.aA [.sub id (Int.toNat (IntKind.u64.wrap y)) 1 n.toNat (some n.toNat),.bool true]:=by
 have h0:0≤IntKind.u64.wrap y:=by rw [eM];omega
 have e1:0+Int.toNat (IntKind.u64.wrap y)*1=Int.toNat (IntKind.u64.wrap y):=by omega
 have e2:Int.toNat (IntKind.i64.wrap (IntKind.i64.wrap (IntKind.u64.wrap y)+n)) - Int.toNat (IntKind.u64.wrap y)=n.toNat:=by
  generalize IntKind.u64.wrap y=z at*
  rw [ct,ct];omega
 rw [e1,e2]
def Ij (v b:Int):Int:=IntKind.u64.wrap ((BitVec.ofInt 64 (IntKind.u64.wrap (v*256))|||BitVec.ofInt 64 (IntKind.u64.wrap b)).toNat:Int)
def tV:List Int→Int
  | []=>0
  |b::t=>Ij (tV t) b
def GB (cs:List D) (k:Nat) (w:Int):Nat→List D
  |0=>cs
  |n+1=>(GB cs k w n).set (k+n*1) (.int .u8 (IntKind.u8.wrap (w.fdiv (256^n))))
theorem eZ:(∀ {α:Type} {a b:List α},(a++b).length=a.length+b.length)∧(∀ {α:Type} {x:α} {a:List α},(x::a).length=a.length+1)∧(∀ {α:Type},([]:List α).length=0)∧(∀ {α:Type} {a:List α} {i:Nat} {x:α},(a.set i x).length=a.length)∧(∀ {α:Type} {n:Nat} {x:α},(List.replicate n x).length=n)∧(∀n:Int,IntKind.i8.wrap n=(n+128)%256 - 128)∧(∀n:Int,IntKind.u8.wrap n=n%256)∧(∀n:Int,IntKind.i64.wrap n=(n+9223372036854775808)%18446744073709551616 - 9223372036854775808)∧(∀n:Int,IntKind.u64.wrap n=n%18446744073709551616)∧(∀ {p:Prop} [Decidable p],(decide p=true)=p)∧(∀ {p:Prop} [Decidable p],(decide p=false)↔ ¬p)∧(∀ {α:Type} [BEq α] [LawfulBEq α] {a b:α},(a==b)=true↔a=b)∧(∀ {α:Type} [BEq α] [LawfulBEq α] {a b:α},(a !=b)=true↔a≠b)∧(∀ {α:Type} [BEq α] [LawfulBEq α] {a b:α},(a==b)=false↔a≠b)∧(∀ {α:Type} [BEq α] [LawfulBEq α] {a b:α},(a !=b)=false↔a=b)∧(∀b:Bool,((!b)=true)=(b=false))∧(∀b:Bool,((!b)=false)=(b=true))∧(∀a b:Bool,((a&&b)=true)=(a=true∧b=true))∧(∀a b:Bool,((a||b)=true)=(a=true∨b=true))∧(∀p:Prop,(p∧True)=p)∧(∀p:Prop,(True∧p)=p)∧(∀ {α:Type} (a:α),(a=a)=True):=
 ⟨List.length_append,List.length_cons,List.length_nil,List.length_set,List.length_replicate,ke,dt,ct,eM,@decide_eq_true_eq,@decide_eq_false_iff_not,@beq_iff_eq,@bne_iff_ne,@beq_eq_false_iff_ne,@bne_eq_false_iff_eq,by intro b;cases b<;>simp,by intro b;cases b<;>simp,by intro a b;simp,by intro a b;simp,by intro p;simp,by intro p;simp,by intro α a;simp⟩
def FF (op dst src base:Int):Int:=
  if op=0 then jE src
  else if op=1∨op=28∨op=29 then 0
  else if 20≤op∧op≤22 then Ae (jE dst) (jE 1)
  else if op=24 then Ae (Ae (jE dst) (jE 0)) (jE 2)
  else if op=26 then jE base
  else if op=27 then Ae (jE base) (jE src)
  else if op=30 then 17
  else if op=31 then 1477
  else if ax op=1∨ax op=2∨ax op=6 then Ae (jE dst) (jE src)
  else jE dst
def oc (op dst:Int):Int:=
  if op=7∨op=8∨op=14∨op=15∨op=27∨op=28∨op=29 then 0
  else if op=24 then 5
  else if op=30 then 16
  else if op=31 then 2051
  else jE dst
def Hq (op w dst src base aa af cc:Int):Int:=if cg op w dst src base aa af cc then FF op dst src base else 0
def jn (op w dst src base aa af cc:Int):Int:=if cg op w dst src base aa af cc then oc op dst else 0
def Fb (w a b:Int):Bool:=decide (aP (u64 (a+b)) w<aP a w)
def Fa (w a b:Int):Bool:=gw (tN (tX a (u64 (a+b))) (tX b (u64 (a+b)))) w
def zb (w a b:Int):Bool:=decide (aP a w<aP b w)
def y9 (w a b:Int):Bool:=gw (tN (tX a b) (tX a (u64 (a - b)))) w
theorem ss (v:Int):IntKind.u64.wrap (IntKind.i64.wrap (IntKind.i8.wrap v))=IntKind.u64.wrap (IntKind.i8.wrap v):=by rw [eM,eM,ct,ke];omega
theorem sr (v:Int):IntKind.u64.wrap (IntKind.i64.wrap (IntKind.i16.wrap v))=IntKind.u64.wrap (IntKind.i16.wrap v):=by rw [eM,eM,ct,GL];omega
theorem sq (v:Int):IntKind.u64.wrap (IntKind.i64.wrap (IntKind.i32.wrap v))=IntKind.u64.wrap (IntKind.i32.wrap v):=by rw [eM,eM,ct,uj];omega
def dr (cc:Int) (c z s o:Bool):Bool:=
  if cc=2 then c else if cc=3 then !c else if cc=4 then z else if cc=5 then !z else if cc=6 then (c||z) else if cc=7 then !(c||z)
  else if cc=12 then (s !=o) else if cc=13 then !(s !=o) else if cc=14 then (z||(s !=o)) else !(z||(s !=o))
def DI (op:Int):Bool:= !(decide (op=7∨op=8∨op=14∨op=15∨op=27∨op=28∨op=29))
theorem DQ {d:Int} (h0:0≤d) (h1:d≤15):jE d≠0:=by
 obtain ⟨n,rfl⟩:=gy h0 h1
 clear h0 h1
 revert n
 decide+kernel
theorem gF {op w dst src base aa af cc:Int} (hm:cg op w dst src base aa af cc=true) (d0:0≤dst) (d1:dst≤15) (hop:DI op=true):(jn op w dst src base aa af cc==0)=false:=by
 rw [beq_eq_false_iff_ne]
 unfold jn
 rw [if_pos hm]
 unfold oc
 simp only [DI,Bool.not_eq_true',decide_eq_false_iff_not] at hop
 rw [if_neg hop]
 split
 ·decide
 ·split
  ·decide
  ·split
   ·decide
   ·exact DQ d0 d1
theorem DG {op w dst src base aa af cc:Int} (hop:DI op=false):(jn op w dst src base aa af cc==0)=true:=by
 rw [beq_iff_eq]
 unfold jn oc
 simp only [DI,Bool.not_eq_false',decide_eq_true_eq] at hop
 rw [if_pos hop]
 split<;>rfl
end Go.Ev
namespace Go.Proofs.YtbfpahigdpigpaaGreat
open Go Go.Ev
theorem bH (v w:Int):aE Tryz.prog 147 ([.int .u64 v,.int .i8 w]) (.int .u64 (aP v w)):=by
 by_cases h0:w=8
 ·subst h0
  exact (aE.ae (d:= .int .u64 (IntKind.wrap IntKind.u64 (IntKind.wrap IntKind.u8 v))) mixed Tryz.func147 (by kernel_rfl) [tT] (by kernel_rfl)).to (by simp [wk,aP,dt,xZ,xY,eM,];try omega)
 ·skip
  by_cases h1:w=16
  ·subst h1
   exact (aE.ae (d:= .int .u64 (IntKind.wrap IntKind.u64 (IntKind.wrap IntKind.u16 v))) mixed Tryz.func147 (by kernel_rfl) [tC (av h0),tT] (by kernel_rfl)).to (by simp [wk,aP,dt,xZ,xY,eM,h0];try omega)
  ·skip
   by_cases h2:w=32
   ·subst h2
    exact (aE.ae (d:= .int .u64 (IntKind.wrap IntKind.u64 (IntKind.wrap IntKind.u32 v))) mixed Tryz.func147 (by kernel_rfl) [tC (av h0),tC (av h1),tT] (by kernel_rfl)).to (by simp [wk,aP,dt,xZ,xY,eM,h0,h1];try omega)
   ·skip
    exact (aE.ae (d:= .int .u64 v) mixed Tryz.func147 (by kernel_rfl) [tC (av h0),tC (av h1),tC (av h2)] (by kernel_rfl)).to (by simp [wk,aP,dt,xZ,xY,eM,h0,h1,h2];try omega)
theorem x9 (v w:Int):aE Tryz.prog 186 ([.int .u64 v,.int .i8 w]) (.int .u64 (lH v w)):=by
 by_cases h0:w=8
 ·subst h0
  exact (aE.ae (d:= .int .u64 (IntKind.wrap IntKind.u64 (IntKind.i64.wrap (IntKind.wrap IntKind.i8 v)))) mixed Tryz.func186 (by kernel_rfl) [tT] (by kernel_rfl)).to (by simp [wk,lH,u64,ss,sr,sq,])
 ·skip
  by_cases h1:w=16
  ·subst h1
   exact (aE.ae (d:= .int .u64 (IntKind.wrap IntKind.u64 (IntKind.i64.wrap (IntKind.wrap IntKind.i16 v)))) mixed Tryz.func186 (by kernel_rfl) [tC (av h0),tT] (by kernel_rfl)).to (by simp [wk,lH,u64,ss,sr,sq,h0])
  ·skip
   by_cases h2:w=32
   ·subst h2
    exact (aE.ae (d:= .int .u64 (IntKind.wrap IntKind.u64 (IntKind.i64.wrap (IntKind.wrap IntKind.i32 v)))) mixed Tryz.func186 (by kernel_rfl) [tC (av h0),tC (av h1),tT] (by kernel_rfl)).to (by simp [wk,lH,u64,ss,sr,sq,h0,h1])
   ·skip
    exact (aE.ae (d:= .int .u64 v) mixed Tryz.func186 (by kernel_rfl) [tC (av h0),tC (av h1),tC (av h2)] (by kernel_rfl)).to (by simp [wk,lH,u64,ss,sr,sq,h0,h1,h2])
theorem fQ (w:Int):aE Tryz.prog 164 ([.int .i8 w]) (.bool (a8 w)):=by
 by_cases h0:w=32
 ·subst h0
  exact (aE.ae (d:= .bool true) mixed Tryz.func164 (by kernel_rfl) [tF,tF,tT] (by kernel_rfl)).to (by simp only [wk,D.bool.injEq,a8];first|rfl|(rw [Bool.eq_iff_iff];simp [];try omega))
 ·skip
  exact (aE.ae (d:= .bool (w==(64:Int))) mixed Tryz.func164 (by kernel_rfl) [tC (eF (av h0)),tC (eF (av h0)),tC (av h0)] (by kernel_rfl)).to (by simp only [wk,D.bool.injEq,a8];first|rfl|(rw [Bool.eq_iff_iff];simp [h0];try omega))
def lO (k0_:Int):Prop:= ∀(w a b:Int) (hw:a8 w=true),aE Tryz.prog 153 ([.int .i8 k0_,.int .i8 w,.int .u64 a,.int .u64 b]) (.aA [.int .u64 (gl k0_ w a b),.int .i64 0])
theorem vL:lO 0:=by
  intro w a b hw
  have c0:= @fQ (w)
  rw [show (a8 w)=true from hw] at c0
  have c1:= @bH (a) (w)
  have c2:= @bH (b) (w)
  have c3:= @bH (IntKind.wrap IntKind.u64 (aP a w+aP b w)) (w)
  exact (aE.ae (d:= .aA [.int .u64 (aP (IntKind.wrap IntKind.u64 (aP a w+aP b w)) w),.int .i64 0]) mixed Tryz.func153 (by kernel_rfl) [tT,tT,tF,tT,tT,.ret _ _ _ c0,tT,tF,tF,.ret _ _ _ c1,.ret _ _ _ c2,.inl,tT,.get ([D.fn (Fn.func 173) [] [],D.fn (Fn.func 174) [] [],D.fn (Fn.func 175) [] [],D.fn (Fn.func 176) [] [],D.fn (Fn.func 177) [] [],D.fn (Fn.func 178) [] [],D.fn (Fn.func 179) [] [],D.fn (Fn.func 180) [] [],D.fn (Fn.func 181) [] [],D.fn (Fn.func 182) [] [],D.fn (Fn.func 183) [] [],D.fn (Fn.func 184) [] [],D.fn (Fn.func 185) [] []]) 0 (D.fn (Fn.func 173) [] []) rfl,.inl,.ret _ _ _ c3] (by kernel_rfl)).to (by first|((simp only [wk,aw,and_true];repeat' (first|rfl|exact True.intro|apply And.intro));done)|(simp [wk,aw,gl,qs,];done)|(simp [wk,aw,gl,qs,u64, *];done))
theorem mM:lO 1:=by
 intro w a b hw
 have c0:= @fQ (w)
 rw [show (a8 w)=true from hw] at c0
 have c1:= @bH (a) (w)
 have c2:= @bH (b) (w)
 have c3:= @bH (IntKind.wrap IntKind.u64 (aP a w - aP b w)) (w)
 exact (aE.ae (d:= .aA [.int .u64 (aP (IntKind.wrap IntKind.u64 (aP a w - aP b w)) w),.int .i64 0]) mixed Tryz.func153 (by kernel_rfl) [tT,tT,tF,tT,tT,.ret _ _ _ c0,tT,tF,tF,.ret _ _ _ c1,.ret _ _ _ c2,.inl,tT,.get ([D.fn (Fn.func 173) [] [],D.fn (Fn.func 174) [] [],D.fn (Fn.func 175) [] [],D.fn (Fn.func 176) [] [],D.fn (Fn.func 177) [] [],D.fn (Fn.func 178) [] [],D.fn (Fn.func 179) [] [],D.fn (Fn.func 180) [] [],D.fn (Fn.func 181) [] [],D.fn (Fn.func 182) [] [],D.fn (Fn.func 183) [] [],D.fn (Fn.func 184) [] [],D.fn (Fn.func 185) [] []]) 1 (D.fn (Fn.func 174) [] []) rfl,.inl,.ret _ _ _ c3] (by kernel_rfl)).to (by first|((simp only [wk,aw,and_true];repeat' (first|rfl|exact True.intro|apply And.intro));done)|(simp [wk,aw,gl,qs,];done)|(simp [wk,aw,gl,qs,u64, *];done))
theorem Dt:lO 2:=by
 intro w a b hw
 have c0:= @fQ (w)
 rw [show (a8 w)=true from hw] at c0
 have c1:= @bH (a) (w)
 have c2:= @bH (b) (w)
 have c3:= @bH (IntKind.wrap IntKind.u64 (aP a w*aP b w)) (w)
 exact (aE.ae (d:= .aA [.int .u64 (aP (IntKind.wrap IntKind.u64 (aP a w*aP b w)) w),.int .i64 0]) mixed Tryz.func153 (by kernel_rfl) [tT,tT,tF,tT,tT,.ret _ _ _ c0,tT,tF,tF,.ret _ _ _ c1,.ret _ _ _ c2,.inl,tT,.get ([D.fn (Fn.func 173) [] [],D.fn (Fn.func 174) [] [],D.fn (Fn.func 175) [] [],D.fn (Fn.func 176) [] [],D.fn (Fn.func 177) [] [],D.fn (Fn.func 178) [] [],D.fn (Fn.func 179) [] [],D.fn (Fn.func 180) [] [],D.fn (Fn.func 181) [] [],D.fn (Fn.func 182) [] [],D.fn (Fn.func 183) [] [],D.fn (Fn.func 184) [] [],D.fn (Fn.func 185) [] []]) 2 (D.fn (Fn.func 175) [] []) rfl,.inl,.ret _ _ _ c3] (by kernel_rfl)).to (by first|((simp only [wk,aw,and_true];repeat' (first|rfl|exact True.intro|apply And.intro));done)|(simp [wk,aw,gl,qs,];done)|(simp [wk,aw,gl,qs,u64, *];done))
theorem vK:lO 4:=by
 intro w a b hw
 have c0:= @fQ (w)
 rw [show (a8 w)=true from hw] at c0
 have c1:= @bH (a) (w)
 have c2:= @bH (b) (w)
 have c3:= @bH (IntKind.wrap IntKind.u64 (↑(BitVec.toNat (BitVec.ofInt (64:Nat) (aP a w)|||BitVec.ofInt (64:Nat) (aP b w))):Int)) (w)
 exact (aE.ae (d:= .aA [.int .u64 (aP (IntKind.wrap IntKind.u64 (↑(BitVec.toNat (BitVec.ofInt (64:Nat) (aP a w)|||BitVec.ofInt (64:Nat) (aP b w))):Int)) w),.int .i64 0]) mixed Tryz.func153 (by kernel_rfl) [tT,tT,tF,tT,tT,.ret _ _ _ c0,tT,tF,tF,.ret _ _ _ c1,.ret _ _ _ c2,.inl,tT,.get ([D.fn (Fn.func 173) [] [],D.fn (Fn.func 174) [] [],D.fn (Fn.func 175) [] [],D.fn (Fn.func 176) [] [],D.fn (Fn.func 177) [] [],D.fn (Fn.func 178) [] [],D.fn (Fn.func 179) [] [],D.fn (Fn.func 180) [] [],D.fn (Fn.func 181) [] [],D.fn (Fn.func 182) [] [],D.fn (Fn.func 183) [] [],D.fn (Fn.func 184) [] [],D.fn (Fn.func 185) [] []]) 4 (D.fn (Fn.func 177) [] []) rfl,.inl,.ret _ _ _ c3] (by kernel_rfl)).to (by first|((simp only [wk,aw,and_true];repeat' (first|rfl|exact True.intro|apply And.intro));done)|(simp [wk,aw,gl,qs,];done)|(simp [wk,aw,gl,qs,u64, *];done))
theorem mL:lO 5:=by
 intro w a b hw
 have c0:= @fQ (w)
 rw [show (a8 w)=true from hw] at c0
 have c1:= @bH (a) (w)
 have c2:= @bH (b) (w)
 have c3:= @bH (IntKind.wrap IntKind.u64 (↑(BitVec.toNat (BitVec.ofInt (64:Nat) (aP a w)&&&BitVec.ofInt (64:Nat) (aP b w))):Int)) (w)
 exact (aE.ae (d:= .aA [.int .u64 (aP (IntKind.wrap IntKind.u64 (↑(BitVec.toNat (BitVec.ofInt (64:Nat) (aP a w)&&&BitVec.ofInt (64:Nat) (aP b w))):Int)) w),.int .i64 0]) mixed Tryz.func153 (by kernel_rfl) [tT,tT,tF,tT,tT,.ret _ _ _ c0,tT,tF,tF,.ret _ _ _ c1,.ret _ _ _ c2,.inl,tT,.get ([D.fn (Fn.func 173) [] [],D.fn (Fn.func 174) [] [],D.fn (Fn.func 175) [] [],D.fn (Fn.func 176) [] [],D.fn (Fn.func 177) [] [],D.fn (Fn.func 178) [] [],D.fn (Fn.func 179) [] [],D.fn (Fn.func 180) [] [],D.fn (Fn.func 181) [] [],D.fn (Fn.func 182) [] [],D.fn (Fn.func 183) [] [],D.fn (Fn.func 184) [] [],D.fn (Fn.func 185) [] []]) 5 (D.fn (Fn.func 178) [] []) rfl,.inl,.ret _ _ _ c3] (by kernel_rfl)).to (by first|((simp only [wk,aw,and_true];repeat' (first|rfl|exact True.intro|apply And.intro));done)|(simp [wk,aw,gl,qs,];done)|(simp [wk,aw,gl,qs,u64, *];done))
theorem vJ:lO 6:=by
 intro w a b hw
 have c0:= @fQ (w)
 rw [show (a8 w)=true from hw] at c0
 have c1:= @bH (a) (w)
 have c2:= @bH (b) (w)
 have c3:= @bH (IntKind.wrap IntKind.u64 (aP a w*(2:Int)^min (Int.toNat (IntKind.wrap IntKind.u64 (↑(BitVec.toNat (BitVec.ofInt (64:Nat) (aP b w)&&&BitVec.ofInt (64:Nat) (IntKind.wrap IntKind.u64 (IntKind.wrap IntKind.i8 (w - (1:Int)))))):Int))) (64:Nat))) (w)
 exact (aE.ae (d:= .aA [.int .u64 (aP (IntKind.wrap IntKind.u64 (aP a w*(2:Int)^min (Int.toNat (IntKind.wrap IntKind.u64 (↑(BitVec.toNat (BitVec.ofInt (64:Nat) (aP b w)&&&BitVec.ofInt (64:Nat) (IntKind.wrap IntKind.u64 (IntKind.wrap IntKind.i8 (w - (1:Int)))))):Int))) (64:Nat))) w),.int .i64 0]) mixed Tryz.func153 (by kernel_rfl) ([tT,tT,tF,tT,tT,.ret _ _ _ c0,tT,tF,tF,.ret _ _ _ c1,.ret _ _ _ c2,.inl,tT,.get ([D.fn (Fn.func 173) [] [],D.fn (Fn.func 174) [] [],D.fn (Fn.func 175) [] [],D.fn (Fn.func 176) [] [],D.fn (Fn.func 177) [] [],D.fn (Fn.func 178) [] [],D.fn (Fn.func 179) [] [],D.fn (Fn.func 180) [] [],D.fn (Fn.func 181) [] [],D.fn (Fn.func 182) [] [],D.fn (Fn.func 183) [] [],D.fn (Fn.func 184) [] [],D.fn (Fn.func 185) [] []]) 6 (D.fn (Fn.func 179) [] []) rfl,.inl,tT]++ [.ret _ _ _ c3]) (by kernel_rfl)).to (by first|((simp only [wk,aw,and_true];repeat' (first|rfl|exact True.intro|apply And.intro));done)|(simp [wk,aw,gl,qs,];done)|(simp [wk,aw,gl,qs,u64, *];done))
theorem vI:lO 7:=by
 intro w a b hw
 have c0:= @fQ (w)
 rw [show (a8 w)=true from hw] at c0
 have c1:= @bH (a) (w)
 have c2:= @bH (b) (w)
 have c3:= @bH (Int.fdiv (aP a w) ((2:Int)^min (Int.toNat (IntKind.wrap IntKind.u64 (↑(BitVec.toNat (BitVec.ofInt (64:Nat) (aP b w)&&&BitVec.ofInt (64:Nat) (IntKind.wrap IntKind.u64 (IntKind.wrap IntKind.i8 (w - (1:Int)))))):Int))) (64:Nat))) (w)
 exact (aE.ae (d:= .aA [.int .u64 (aP (Int.fdiv (aP a w) ((2:Int)^min (Int.toNat (IntKind.wrap IntKind.u64 (↑(BitVec.toNat (BitVec.ofInt (64:Nat) (aP b w)&&&BitVec.ofInt (64:Nat) (IntKind.wrap IntKind.u64 (IntKind.wrap IntKind.i8 (w - (1:Int)))))):Int))) (64:Nat))) w),.int .i64 0]) mixed Tryz.func153 (by kernel_rfl) ([tT,tT,tF,tT,tT,.ret _ _ _ c0,tT,tF,tF,.ret _ _ _ c1,.ret _ _ _ c2,.inl,tT,.get ([D.fn (Fn.func 173) [] [],D.fn (Fn.func 174) [] [],D.fn (Fn.func 175) [] [],D.fn (Fn.func 176) [] [],D.fn (Fn.func 177) [] [],D.fn (Fn.func 178) [] [],D.fn (Fn.func 179) [] [],D.fn (Fn.func 180) [] [],D.fn (Fn.func 181) [] [],D.fn (Fn.func 182) [] [],D.fn (Fn.func 183) [] [],D.fn (Fn.func 184) [] [],D.fn (Fn.func 185) [] []]) 7 (D.fn (Fn.func 180) [] []) rfl,.inl,tT]++ [.ret _ _ _ c3]) (by kernel_rfl)).to (by first|((simp only [wk,aw,and_true];repeat' (first|rfl|exact True.intro|apply And.intro));done)|(simp [wk,aw,gl,qs,];done)|(simp [wk,aw,gl,qs,u64, *];done))
theorem Ds:lO 8:=by
 intro w a b hw
 have c0:= @fQ (w)
 rw [show (a8 w)=true from hw] at c0
 have c1:= @bH (a) (w)
 have c2:= @bH (b) (w)
 have c3:= @bH (IntKind.wrap IntKind.u64 ((0:Int) - aP a w)) (w)
 exact (aE.ae (d:= .aA [.int .u64 (aP (IntKind.wrap IntKind.u64 ((0:Int) - aP a w)) w),.int .i64 0]) mixed Tryz.func153 (by kernel_rfl) [tT,tT,tF,tT,tT,.ret _ _ _ c0,tT,tF,tF,.ret _ _ _ c1,.ret _ _ _ c2,.inl,tT,.get ([D.fn (Fn.func 173) [] [],D.fn (Fn.func 174) [] [],D.fn (Fn.func 175) [] [],D.fn (Fn.func 176) [] [],D.fn (Fn.func 177) [] [],D.fn (Fn.func 178) [] [],D.fn (Fn.func 179) [] [],D.fn (Fn.func 180) [] [],D.fn (Fn.func 181) [] [],D.fn (Fn.func 182) [] [],D.fn (Fn.func 183) [] [],D.fn (Fn.func 184) [] [],D.fn (Fn.func 185) [] []]) 8 (D.fn (Fn.func 181) [] []) rfl,.inl,.ret _ _ _ c3] (by kernel_rfl)).to (by first|((simp only [wk,aw,and_true];repeat' (first|rfl|exact True.intro|apply And.intro));done)|(simp [wk,aw,gl,qs,];done)|(simp [wk,aw,gl,qs,u64, *];done))
theorem rH:lO 10:=by
 intro w a b hw
 have c0:= @fQ (w)
 rw [show (a8 w)=true from hw] at c0
 have c1:= @bH (a) (w)
 have c2:= @bH (b) (w)
 have c3:= @bH (IntKind.wrap IntKind.u64 (↑(BitVec.toNat (BitVec.ofInt (64:Nat) (aP a w)^^^BitVec.ofInt (64:Nat) (aP b w))):Int)) (w)
 exact (aE.ae (d:= .aA [.int .u64 (aP (IntKind.wrap IntKind.u64 (↑(BitVec.toNat (BitVec.ofInt (64:Nat) (aP a w)^^^BitVec.ofInt (64:Nat) (aP b w))):Int)) w),.int .i64 0]) mixed Tryz.func153 (by kernel_rfl) [tT,tT,tF,tT,tT,.ret _ _ _ c0,tT,tF,tF,.ret _ _ _ c1,.ret _ _ _ c2,.inl,tT,.get ([D.fn (Fn.func 173) [] [],D.fn (Fn.func 174) [] [],D.fn (Fn.func 175) [] [],D.fn (Fn.func 176) [] [],D.fn (Fn.func 177) [] [],D.fn (Fn.func 178) [] [],D.fn (Fn.func 179) [] [],D.fn (Fn.func 180) [] [],D.fn (Fn.func 181) [] [],D.fn (Fn.func 182) [] [],D.fn (Fn.func 183) [] [],D.fn (Fn.func 184) [] [],D.fn (Fn.func 185) [] []]) 10 (D.fn (Fn.func 183) [] []) rfl,.inl,.ret _ _ _ c3] (by kernel_rfl)).to (by first|((simp only [wk,aw,and_true];repeat' (first|rfl|exact True.intro|apply And.intro));done)|(simp [wk,aw,gl,qs,];done)|(simp [wk,aw,gl,qs,u64, *];done))
theorem rG:lO 12:=by
 intro w a b hw
 have c0:= @fQ (w)
 rw [show (a8 w)=true from hw] at c0
 have c1:= @bH (a) (w)
 have c2:= @bH (b) (w)
 have c3:= @x9 (aP a w) (w)
 have c4:= @bH (IntKind.wrap IntKind.u64 (Int.fdiv (IntKind.i64.wrap (lH (aP a w) w)) ((2:Int)^min (Int.toNat (IntKind.wrap IntKind.u64 (↑(BitVec.toNat (BitVec.ofInt (64:Nat) (aP b w)&&&BitVec.ofInt (64:Nat) (IntKind.wrap IntKind.u64 (IntKind.wrap IntKind.i8 (w - (1:Int)))))):Int))) (64:Nat)))) (w)
 exact (aE.ae (d:= .aA [.int .u64 (aP (IntKind.wrap IntKind.u64 (Int.fdiv (IntKind.i64.wrap (lH (aP a w) w)) ((2:Int)^min (Int.toNat (IntKind.wrap IntKind.u64 (↑(BitVec.toNat (BitVec.ofInt (64:Nat) (aP b w)&&&BitVec.ofInt (64:Nat) (IntKind.wrap IntKind.u64 (IntKind.wrap IntKind.i8 (w - (1:Int)))))):Int))) (64:Nat)))) w),.int .i64 0]) mixed Tryz.func153 (by kernel_rfl) ([tT,tT,tF,tT,tT,.ret _ _ _ c0,tT,tF,tF,.ret _ _ _ c1,.ret _ _ _ c2,.inl,tT,.get ([D.fn (Fn.func 173) [] [],D.fn (Fn.func 174) [] [],D.fn (Fn.func 175) [] [],D.fn (Fn.func 176) [] [],D.fn (Fn.func 177) [] [],D.fn (Fn.func 178) [] [],D.fn (Fn.func 179) [] [],D.fn (Fn.func 180) [] [],D.fn (Fn.func 181) [] [],D.fn (Fn.func 182) [] [],D.fn (Fn.func 183) [] [],D.fn (Fn.func 184) [] [],D.fn (Fn.func 185) [] []]) 12 (D.fn (Fn.func 185) [] []) rfl,.inl,.ret _ _ _ c3]++ [tT,.ret _ _ _ c4]) (by kernel_rfl)).to (by first|((simp only [wk,aw,and_true];repeat' (first|rfl|exact True.intro|apply And.intro));done)|(simp [wk,aw,gl,qs,];done)|(simp [wk,aw,gl,qs,u64, *];done))
theorem b8:aE Tryz.prog 149 ([]) (fD false false false false false):=by
 exact (aE.ae (d:= .agg [.bool false,.bool false,.bool false,.bool false,.bool false]) mixed Tryz.func149 (by kernel_rfl) [] (by kernel_rfl)).to (by first|((simp only [wk,aw,and_true];repeat' (first|rfl|exact True.intro|apply And.intro));done)|(simp [wk,aw,];done))
theorem k7 (v w:Int):aE Tryz.prog 166 ([.int .u64 v,.int .i8 w]) (.bool (gw v w)):=by
 have c0:= @x9 (v) (w)
 exact (aE.ae (d:= .bool (decide (IntKind.i64.wrap (lH v w)<(0:Int)))) mixed Tryz.func166 (by kernel_rfl) [.ret _ _ _ c0] (by kernel_rfl)).to (by first|((simp only [wk,aw,and_true];repeat' (first|rfl|exact True.intro|apply And.intro));done)|(simp [wk,aw,];done))
theorem jg (w v:Int) (hw:a8 w=true):aE Tryz.prog 156 ([.int .i8 w,.int .u64 v]) (.aA [fD true false (aP v w==0) (gw v w) false,.int .i64 0]):=by
 by_cases h0:w=32
 ·subst h0
  have c1:= @bH (v) ((32:Int))
  have c2:= @k7 (v) ((32:Int))
  exact (aE.ae (d:= .aA [.agg [.bool true,.bool false,.bool (aP v (32:Int)==(0:Int)),.bool (gw v (32:Int)),.bool false],.int .i64 0]) mixed Tryz.func156 (by kernel_rfl) [tF,tF,tF,tF,.ret _ _ _ c1,.ret _ _ _ c2] (by kernel_rfl)).to (by first|((simp only [wk,aw,and_true];repeat' (first|rfl|exact True.intro|apply And.intro));done)|(exfalso;simp [a8] at*;done)|(exfalso;simp [a8] at*;omega))
 ·skip
  by_cases h3:w=64
  ·subst h3
   have c4:= @bH (v) ((64:Int))
   have c5:= @k7 (v) ((64:Int))
   exact (aE.ae (d:= .aA [.agg [.bool true,.bool false,.bool (aP v (64:Int)==(0:Int)),.bool (gw v (64:Int)),.bool false],.int .i64 0]) mixed Tryz.func156 (by kernel_rfl) [tC (eT (nt (av h0))),tC (eT (nt (av h0))),tC (nt (av h0)),tF,.ret _ _ _ c4,.ret _ _ _ c5] (by kernel_rfl)).to (by first|((simp only [wk,aw,and_true];repeat' (first|rfl|exact True.intro|apply And.intro));done)|(exfalso;simp [a8] at*;done)|(exfalso;simp [a8] at*;omega))
  ·skip
   exact (aE.ae (d:= .aA [.agg [.bool false,.bool false,.bool false,.bool false,.bool false],.int .i64 2]) mixed Tryz.func156 (by kernel_rfl) [tC (eT (nt (av h0))),tC (eT (nt (av h0))),tC (nt (av h0)),tC (nt (av h3))] (by kernel_rfl)).to (by first|((simp only [wk,aw,and_true];repeat' (first|rfl|exact True.intro|apply And.intro));done)|(exfalso;simp [a8] at*;done)|(exfalso;simp [a8] at*;omega))
theorem yG (w a b:Int) (hw:a8 w=true):aE Tryz.prog 154 ([.int .i8 w,.int .u64 a,.int .u64 b]) (.aA [fD true (Fb w a b) (aP (u64 (a+b)) w==0) (gw (u64 (a+b)) w) (Fa w a b),.int .i64 0]):=by
 have c0:= @jg (w) (IntKind.wrap IntKind.u64 (a+b)) hw
 have c1:= @bH (IntKind.wrap IntKind.u64 (a+b)) (w)
 have c2:= @bH (a) (w)
 have c3:= @k7 (IntKind.wrap IntKind.u64 (↑(BitVec.toNat (BitVec.ofInt (64:Nat) (IntKind.wrap IntKind.u64 (↑(BitVec.toNat (BitVec.ofInt (64:Nat) a^^^BitVec.ofInt (64:Nat) (IntKind.wrap IntKind.u64 (a+b)))):Int))&&&BitVec.ofInt (64:Nat) (IntKind.wrap IntKind.u64 (↑(BitVec.toNat (BitVec.ofInt (64:Nat) b^^^BitVec.ofInt (64:Nat) (IntKind.wrap IntKind.u64 (a+b)))):Int)))):Int)) (w)
 exact (aE.ae (d:= .aA [.agg [.bool true,.bool (decide (aP (IntKind.wrap IntKind.u64 (a+b)) w<aP a w)),.bool (aP (IntKind.wrap IntKind.u64 (a+b)) w==(0:Int)),.bool (gw (IntKind.wrap IntKind.u64 (a+b)) w),.bool (gw (IntKind.wrap IntKind.u64 (↑(BitVec.toNat (BitVec.ofInt (64:Nat) (IntKind.wrap IntKind.u64 (↑(BitVec.toNat (BitVec.ofInt (64:Nat) a^^^BitVec.ofInt (64:Nat) (IntKind.wrap IntKind.u64 (a+b)))):Int))&&&BitVec.ofInt (64:Nat) (IntKind.wrap IntKind.u64 (↑(BitVec.toNat (BitVec.ofInt (64:Nat) b^^^BitVec.ofInt (64:Nat) (IntKind.wrap IntKind.u64 (a+b)))):Int)))):Int)) w)],.int .i64 0]) mixed Tryz.func154 (by kernel_rfl) [.ret _ _ _ c0,tF,.ret _ _ _ c1,.ret _ _ _ c2,.ret _ _ _ c3] (by kernel_rfl)).to (by first|((simp only [wk,aw,and_true];repeat' (first|rfl|exact True.intro|apply And.intro));done)|(simp [wk,aw,];done))
theorem mC (w a b:Int) (hw:a8 w=true):aE Tryz.prog 155 ([.int .i8 w,.int .u64 a,.int .u64 b]) (.aA [fD true (zb w a b) (aP (u64 (a - b)) w==0) (gw (u64 (a - b)) w) (y9 w a b),.int .i64 0]):=by
 have c0:= @jg (w) (IntKind.wrap IntKind.u64 (a - b)) hw
 have c1:= @bH (a) (w)
 have c2:= @bH (b) (w)
 have c3:= @k7 (IntKind.wrap IntKind.u64 (↑(BitVec.toNat (BitVec.ofInt (64:Nat) (IntKind.wrap IntKind.u64 (↑(BitVec.toNat (BitVec.ofInt (64:Nat) a^^^BitVec.ofInt (64:Nat) b)):Int))&&&BitVec.ofInt (64:Nat) (IntKind.wrap IntKind.u64 (↑(BitVec.toNat (BitVec.ofInt (64:Nat) a^^^BitVec.ofInt (64:Nat) (IntKind.wrap IntKind.u64 (a - b)))):Int)))):Int)) (w)
 exact (aE.ae (d:= .aA [.agg [.bool true,.bool (decide (aP a w<aP b w)),.bool (aP (IntKind.wrap IntKind.u64 (a - b)) w==(0:Int)),.bool (gw (IntKind.wrap IntKind.u64 (a - b)) w),.bool (gw (IntKind.wrap IntKind.u64 (↑(BitVec.toNat (BitVec.ofInt (64:Nat) (IntKind.wrap IntKind.u64 (↑(BitVec.toNat (BitVec.ofInt (64:Nat) a^^^BitVec.ofInt (64:Nat) b)):Int))&&&BitVec.ofInt (64:Nat) (IntKind.wrap IntKind.u64 (↑(BitVec.toNat (BitVec.ofInt (64:Nat) a^^^BitVec.ofInt (64:Nat) (IntKind.wrap IntKind.u64 (a - b)))):Int)))):Int)) w)],.int .i64 0]) mixed Tryz.func155 (by kernel_rfl) [.ret _ _ _ c0,tF,.ret _ _ _ c1,.ret _ _ _ c2,.ret _ _ _ c3] (by kernel_rfl)).to (by first|((simp only [wk,aw,and_true];repeat' (first|rfl|exact True.intro|apply And.intro));done)|(simp [wk,aw,];done))
theorem da (a:Int) (a0:0≤a) (a1:a≤15):aE Tryz.prog 167 ([.aj .tight 1 [.int .i8 a]]) (.int .i64 (jE a)):=by
 exact (GS (d:=D.int IntKind.i64 (IntKind.i64.wrap (↑(BitVec.toNat (BitVec.ofInt (64:Nat) 0|||BitVec.ofInt (64:Nat) (IntKind.i64.wrap (1*2^min (Int.toNat a) (64:Nat))))):Int))) [.go 64,tT,tT,.get ([D.int IntKind.i8 a]) 0 (D.int IntKind.i8 a) rfl,tC (v:=true) (bR 0 (decide_eq_false (Int.not_lt.2 a0))),tF] (by kernel_rfl)).to (by simp only [wk,D.int.injEq,true_and];obtain ⟨n_a,rfl⟩:=gy a0 a1;clear a0 a1;revert n_a;decide+kernel)
theorem DR (a:Int) (a0:0≤a) (a1:a≤15) (b:Int) (b0:0≤b) (b1:b≤15):aE Tryz.prog 167 ([.aj .tight 1 [.int .i8 a,.int .i8 b]]) (.int .i64 (Ae (jE a) (jE b))):=by
 exact (GS (d:=D.int IntKind.i64 (IntKind.i64.wrap (↑(BitVec.toNat (BitVec.ofInt (64:Nat) (IntKind.i64.wrap (↑(BitVec.toNat (BitVec.ofInt (64:Nat) 0|||BitVec.ofInt (64:Nat) (IntKind.i64.wrap (1*2^min (Int.toNat a) (64:Nat))))):Int))|||BitVec.ofInt (64:Nat) (IntKind.i64.wrap (1*2^min (Int.toNat b) (64:Nat))))):Int))) [.go 64,tT,tT,.get ([D.int IntKind.i8 a,D.int IntKind.i8 b]) 0 (D.int IntKind.i8 a) rfl,tC (v:=true) (bR 0 (decide_eq_false (Int.not_lt.2 a0))),tT,tT,.get ([D.int IntKind.i8 a,D.int IntKind.i8 b]) 1 (D.int IntKind.i8 b) rfl,tC (v:=true) (bR 0 (decide_eq_false (Int.not_lt.2 b0))),tF] (by kernel_rfl)).to (by simp only [wk,D.int.injEq,true_and];obtain ⟨n_a,rfl⟩:=gy a0 a1;obtain ⟨n_b,rfl⟩:=gy b0 b1;clear a0 a1 b0 b1;revert n_a n_b;decide+kernel)
def cS (k0_:Int):Prop:= ∀(w dst src base aa af cc:Int) (d0:0≤dst) (d1:dst≤15) (s0:0≤src) (s1:src≤15) (b0:0≤base) (b1:base≤15) (hm:cg k0_ w dst src base aa af cc=true),aE Tryz.prog 157 ([xD k0_ w dst src base aa af cc]) (.int .i64 (oc k0_ dst))
theorem uh:cS 0:=by
 intro w dst src base aa af cc d0 d1 s0 s1 b0 b1 hm
 have c0:= @aJ 0 w dst src base aa af cc (by decide)
 rw [hm] at c0
 have c1:= @da dst d0 d1
 exact (fK (d:= .int .i64 (jE dst)) ([.ret _ _ _ c0]++List.replicate 11 tF++ [.ret _ _ _ c1]) (by kernel_rfl)).to (by rfl)
theorem ug:cS 1:=by
 intro w dst src base aa af cc d0 d1 s0 s1 b0 b1 hm
 have c0:= @aJ 1 w dst src base aa af cc (by decide)
 rw [hm] at c0
 have c1:= @da dst d0 d1
 exact (fK (d:= .int .i64 (jE dst)) ([.ret _ _ _ c0]++List.replicate 11 tF++ [.ret _ _ _ c1]) (by kernel_rfl)).to (by rfl)
theorem uf:cS 2:=by
 intro w dst src base aa af cc d0 d1 s0 s1 b0 b1 hm
 have c0:= @aJ 2 w dst src base aa af cc (by decide)
 rw [hm] at c0
 have c1:= @da dst d0 d1
 exact (fK (d:= .int .i64 (jE dst)) ([.ret _ _ _ c0]++List.replicate 11 tF++ [.ret _ _ _ c1]) (by kernel_rfl)).to (by rfl)
theorem ue:cS 3:=by
 intro w dst src base aa af cc d0 d1 s0 s1 b0 b1 hm
 have c0:= @aJ 3 w dst src base aa af cc (by decide)
 rw [hm] at c0
 have c1:= @da dst d0 d1
 exact (fK (d:= .int .i64 (jE dst)) ([.ret _ _ _ c0]++List.replicate 11 tF++ [.ret _ _ _ c1]) (by kernel_rfl)).to (by rfl)
theorem ud:cS 4:=by
 intro w dst src base aa af cc d0 d1 s0 s1 b0 b1 hm
 have c0:= @aJ 4 w dst src base aa af cc (by decide)
 rw [hm] at c0
 have c1:= @da dst d0 d1
 exact (fK (d:= .int .i64 (jE dst)) ([.ret _ _ _ c0]++List.replicate 11 tF++ [.ret _ _ _ c1]) (by kernel_rfl)).to (by rfl)
theorem uc:cS 5:=by
 intro w dst src base aa af cc d0 d1 s0 s1 b0 b1 hm
 have c0:= @aJ 5 w dst src base aa af cc (by decide)
 rw [hm] at c0
 have c1:= @da dst d0 d1
 exact (fK (d:= .int .i64 (jE dst)) ([.ret _ _ _ c0]++List.replicate 11 tF++ [.ret _ _ _ c1]) (by kernel_rfl)).to (by rfl)
theorem ub:cS 6:=by
 intro w dst src base aa af cc d0 d1 s0 s1 b0 b1 hm
 have c0:= @aJ 6 w dst src base aa af cc (by decide)
 rw [hm] at c0
 have c1:= @da dst d0 d1
 exact (fK (d:= .int .i64 (jE dst)) ([.ret _ _ _ c0]++List.replicate 11 tF++ [.ret _ _ _ c1]) (by kernel_rfl)).to (by rfl)
theorem ua:cS 7:=by
 intro w dst src base aa af cc d0 d1 s0 s1 b0 b1 hm
 have c0:= @aJ 7 w dst src base aa af cc (by decide)
 rw [hm] at c0
 exact (fK (d:= .int .i64 0) [.ret _ _ _ c0,tF,tT,tT] (by kernel_rfl)).to (by rfl)
theorem tZ:cS 8:=by
 intro w dst src base aa af cc d0 d1 s0 s1 b0 b1 hm
 have c0:= @aJ 8 w dst src base aa af cc (by decide)
 rw [hm] at c0
 exact (fK (d:= .int .i64 0) [.ret _ _ _ c0,tF,tF,tT,tT] (by kernel_rfl)).to (by rfl)
theorem tY:cS 9:=by
 intro w dst src base aa af cc d0 d1 s0 s1 b0 b1 hm
 have c0:= @aJ 9 w dst src base aa af cc (by decide)
 rw [hm] at c0
 have c1:= @da dst d0 d1
 exact (fK (d:= .int .i64 (jE dst)) ([.ret _ _ _ c0]++List.replicate 11 tF++ [.ret _ _ _ c1]) (by kernel_rfl)).to (by rfl)
theorem sk:cS 10:=by
 intro w dst src base aa af cc d0 d1 s0 s1 b0 b1 hm
 have c0:= @aJ 10 w dst src base aa af cc (by decide)
 rw [hm] at c0
 have c1:= @da dst d0 d1
 exact (fK (d:= .int .i64 (jE dst)) ([.ret _ _ _ c0]++List.replicate 11 tF++ [.ret _ _ _ c1]) (by kernel_rfl)).to (by rfl)
theorem sj:cS 11:=by
 intro w dst src base aa af cc d0 d1 s0 s1 b0 b1 hm
 have c0:= @aJ 11 w dst src base aa af cc (by decide)
 rw [hm] at c0
 have c1:= @da dst d0 d1
 exact (fK (d:= .int .i64 (jE dst)) ([.ret _ _ _ c0]++List.replicate 11 tF++ [.ret _ _ _ c1]) (by kernel_rfl)).to (by rfl)
theorem si:cS 12:=by
 intro w dst src base aa af cc d0 d1 s0 s1 b0 b1 hm
 have c0:= @aJ 12 w dst src base aa af cc (by decide)
 rw [hm] at c0
 have c1:= @da dst d0 d1
 exact (fK (d:= .int .i64 (jE dst)) ([.ret _ _ _ c0]++List.replicate 11 tF++ [.ret _ _ _ c1]) (by kernel_rfl)).to (by rfl)
theorem sg:cS 13:=by
 intro w dst src base aa af cc d0 d1 s0 s1 b0 b1 hm
 have c0:= @aJ 13 w dst src base aa af cc (by decide)
 rw [hm] at c0
 have c1:= @da dst d0 d1
 exact (fK (d:= .int .i64 (jE dst)) ([.ret _ _ _ c0]++List.replicate 11 tF++ [.ret _ _ _ c1]) (by kernel_rfl)).to (by rfl)
theorem sf:cS 14:=by
 intro w dst src base aa af cc d0 d1 s0 s1 b0 b1 hm
 have c0:= @aJ 14 w dst src base aa af cc (by decide)
 rw [hm] at c0
 exact (fK (d:= .int .i64 0) [.ret _ _ _ c0,tF,tF,tF,tT,tT] (by kernel_rfl)).to (by rfl)
theorem se:cS 15:=by
 intro w dst src base aa af cc d0 d1 s0 s1 b0 b1 hm
 have c0:= @aJ 15 w dst src base aa af cc (by decide)
 rw [hm] at c0
 exact (fK (d:= .int .i64 0) [.ret _ _ _ c0,tF,tF,tF,tF,tT,tT] (by kernel_rfl)).to (by rfl)
theorem sd:cS 16:=by
 intro w dst src base aa af cc d0 d1 s0 s1 b0 b1 hm
 have c0:= @aJ 16 w dst src base aa af cc (by decide)
 rw [hm] at c0
 have c1:= @da dst d0 d1
 exact (fK (d:= .int .i64 (jE dst)) ([.ret _ _ _ c0]++List.replicate 11 tF++ [.ret _ _ _ c1]) (by kernel_rfl)).to (by rfl)
theorem sb:cS 17:=by
 intro w dst src base aa af cc d0 d1 s0 s1 b0 b1 hm
 have c0:= @aJ 17 w dst src base aa af cc (by decide)
 rw [hm] at c0
 have c1:= @da dst d0 d1
 exact (fK (d:= .int .i64 (jE dst)) ([.ret _ _ _ c0]++List.replicate 11 tF++ [.ret _ _ _ c1]) (by kernel_rfl)).to (by rfl)
theorem rZ:cS 18:=by
 intro w dst src base aa af cc d0 d1 s0 s1 b0 b1 hm
 have c0:= @aJ 18 w dst src base aa af cc (by decide)
 rw [hm] at c0
 have c1:= @da dst d0 d1
 exact (fK (d:= .int .i64 (jE dst)) ([.ret _ _ _ c0]++List.replicate 11 tF++ [.ret _ _ _ c1]) (by kernel_rfl)).to (by rfl)
theorem rY:cS 19:=by
 intro w dst src base aa af cc d0 d1 s0 s1 b0 b1 hm
 have c0:= @aJ 19 w dst src base aa af cc (by decide)
 rw [hm] at c0
 have c1:= @da dst d0 d1
 exact (fK (d:= .int .i64 (jE dst)) ([.ret _ _ _ c0]++List.replicate 11 tF++ [.ret _ _ _ c1]) (by kernel_rfl)).to (by rfl)
theorem rX:cS 20:=by
 intro w dst src base aa af cc d0 d1 s0 s1 b0 b1 hm
 have c0:= @aJ 20 w dst src base aa af cc (by decide)
 rw [hm] at c0
 have c1:= @da dst d0 d1
 exact (fK (d:= .int .i64 (jE dst)) ([.ret _ _ _ c0]++List.replicate 11 tF++ [.ret _ _ _ c1]) (by kernel_rfl)).to (by rfl)
theorem rW:cS 21:=by
 intro w dst src base aa af cc d0 d1 s0 s1 b0 b1 hm
 have c0:= @aJ 21 w dst src base aa af cc (by decide)
 rw [hm] at c0
 have c1:= @da dst d0 d1
 exact (fK (d:= .int .i64 (jE dst)) ([.ret _ _ _ c0]++List.replicate 11 tF++ [.ret _ _ _ c1]) (by kernel_rfl)).to (by rfl)
theorem rV:cS 22:=by
 intro w dst src base aa af cc d0 d1 s0 s1 b0 b1 hm
 have c0:= @aJ 22 w dst src base aa af cc (by decide)
 rw [hm] at c0
 have c1:= @da dst d0 d1
 exact (fK (d:= .int .i64 (jE dst)) ([.ret _ _ _ c0]++List.replicate 11 tF++ [.ret _ _ _ c1]) (by kernel_rfl)).to (by rfl)
theorem rU:cS 23:=by
 intro w dst src base aa af cc d0 d1 s0 s1 b0 b1 hm
 have c0:= @aJ 23 w dst src base aa af cc (by decide)
 rw [hm] at c0
 have c1:= @da dst d0 d1
 exact (fK (d:= .int .i64 (jE dst)) ([.ret _ _ _ c0]++List.replicate 11 tF++ [.ret _ _ _ c1]) (by kernel_rfl)).to (by rfl)
theorem rT:cS 24:=by
 intro w dst src base aa af cc d0 d1 s0 s1 b0 b1 hm
 have c0:= @aJ 24 w dst src base aa af cc (by decide)
 rw [hm] at c0
 have c1:= @DR 0 (by decide) (by decide) 2 (by decide) (by decide)
 exact (fK (d:= .int .i64 5) ([.ret _ _ _ c0]++List.replicate 8 tF++ [tT,.ret _ _ _ c1]) (by kernel_rfl)).to (by rfl)
theorem rR:cS 25:=by
 intro w dst src base aa af cc d0 d1 s0 s1 b0 b1 hm
 have c0:= @aJ 25 w dst src base aa af cc (by decide)
 rw [hm] at c0
 have c1:= @da dst d0 d1
 exact (fK (d:= .int .i64 (jE dst)) ([.ret _ _ _ c0]++List.replicate 11 tF++ [.ret _ _ _ c1]) (by kernel_rfl)).to (by rfl)
theorem rQ:cS 26:=by
 intro w dst src base aa af cc d0 d1 s0 s1 b0 b1 hm
 have c0:= @aJ 26 w dst src base aa af cc (by decide)
 rw [hm] at c0
 have c1:= @da dst d0 d1
 exact (fK (d:= .int .i64 (jE dst)) ([.ret _ _ _ c0]++List.replicate 11 tF++ [.ret _ _ _ c1]) (by kernel_rfl)).to (by rfl)
theorem rP:cS 27:=by
 intro w dst src base aa af cc d0 d1 s0 s1 b0 b1 hm
 have c0:= @aJ 27 w dst src base aa af cc (by decide)
 rw [hm] at c0
 exact (fK (d:= .int .i64 0) [.ret _ _ _ c0,tF,tF,tF,tF,tF,tT,tT] (by kernel_rfl)).to (by rfl)
theorem rO:cS 28:=by
 intro w dst src base aa af cc d0 d1 s0 s1 b0 b1 hm
 have c0:= @aJ 28 w dst src base aa af cc (by decide)
 rw [hm] at c0
 exact (fK (d:= .int .i64 0) [.ret _ _ _ c0,tF,tF,tF,tF,tF,tF,tT,tT] (by kernel_rfl)).to (by rfl)
theorem rN:cS 29:=by
 intro w dst src base aa af cc d0 d1 s0 s1 b0 b1 hm
 have c0:= @aJ 29 w dst src base aa af cc (by decide)
 rw [hm] at c0
 exact (fK (d:= .int .i64 0) [.ret _ _ _ c0,tF,tF,tF,tF,tF,tF,tF,tT] (by kernel_rfl)).to (by rfl)
theorem rM:cS 30:=by
 intro w dst src base aa af cc d0 d1 s0 s1 b0 b1 hm
 have c0:= @aJ 30 w dst src base aa af cc (by decide)
 rw [hm] at c0
 have c1:= @da 4 (by decide) (by decide)
 exact (fK (d:= .int .i64 16) ([.ret _ _ _ c0]++List.replicate 9 tF++ [tT,.ret _ _ _ c1]) (by kernel_rfl)).to (by rfl)
theorem rL:cS 31:=by
 intro w dst src base aa af cc d0 d1 s0 s1 b0 b1 hm
 have c0:= @aJ 31 w dst src base aa af cc (by decide)
 rw [hm] at c0
 exact (fK (d:= .int .i64 2051) ([.ret _ _ _ c0]++List.replicate 10 tF++ [tT,.inl,.go 64,tT,tT,.get ([.int .i8 0,.int .i8 1,.int .i8 11]) 0 (.int .i8 0) rfl,tT,tT,tT,.get ([.int .i8 0,.int .i8 1,.int .i8 11]) 1 (.int .i8 1) rfl,tT,tT,tT,.get ([.int .i8 0,.int .i8 1,.int .i8 11]) 2 (.int .i8 11) rfl,tT,tF]) (by kernel_rfl)).to (by rfl)
theorem rK (op w dst src base aa af cc:Int) (ho:op≤127) (hm:cg op w dst src base aa af cc=false):aE Tryz.prog 157 ([xD op w dst src base aa af cc]) (.int .i64 0):=by
 have c0:= @aJ op w dst src base aa af cc ho
 rw [hm] at c0
 exact (fK (d:= .int .i64 0) [.ret _ _ _ c0,tT] (by kernel_rfl)).to (by simp [wk])
theorem Ei {op w dst src base aa af cc:Int} (h:cg op w dst src base aa af cc=true):ax op≠0:=by
 have hs:=(dv h).2
 intro e
 rw [e] at hs
 simp [hN] at hs
theorem bf (op w dst src base aa af cc:Int) (ho:op≤127):aE Tryz.prog 157 [xD op w dst src base aa af cc] (.int .i64 (jn op w dst src base aa af cc)):=by
 unfold jn
 cases h:cg op w dst src base aa af cc
 ·simp only [Bool.false_eq_true,if_false]
  exact rK op w dst src base aa af cc ho h
 ·simp only [if_true]
  obtain ⟨⟨d0,d1,s0,s1,b0,b1,p0,p1,i0,i1⟩,hs⟩:=dv h
  have hsh:=Ei h
  clear hs
  rcases gK hsh with rfl|rfl|rfl|rfl|rfl|rfl|rfl|rfl|rfl|rfl|rfl|rfl|rfl|rfl|rfl|rfl|rfl|rfl|rfl|rfl|rfl|rfl|rfl|rfl|rfl|rfl|rfl|rfl|rfl|rfl|rfl|rfl
  ·exact uh _ _ _ _ _ _ _ d0 d1 s0 s1 b0 b1 h
  ·exact ug _ _ _ _ _ _ _ d0 d1 s0 s1 b0 b1 h
  ·exact uf _ _ _ _ _ _ _ d0 d1 s0 s1 b0 b1 h
  ·exact ue _ _ _ _ _ _ _ d0 d1 s0 s1 b0 b1 h
  ·exact ud _ _ _ _ _ _ _ d0 d1 s0 s1 b0 b1 h
  ·exact uc _ _ _ _ _ _ _ d0 d1 s0 s1 b0 b1 h
  ·exact ub _ _ _ _ _ _ _ d0 d1 s0 s1 b0 b1 h
  ·exact ua _ _ _ _ _ _ _ d0 d1 s0 s1 b0 b1 h
  ·exact tZ _ _ _ _ _ _ _ d0 d1 s0 s1 b0 b1 h
  ·exact tY _ _ _ _ _ _ _ d0 d1 s0 s1 b0 b1 h
  ·exact sk _ _ _ _ _ _ _ d0 d1 s0 s1 b0 b1 h
  ·exact sj _ _ _ _ _ _ _ d0 d1 s0 s1 b0 b1 h
  ·exact si _ _ _ _ _ _ _ d0 d1 s0 s1 b0 b1 h
  ·exact sg _ _ _ _ _ _ _ d0 d1 s0 s1 b0 b1 h
  ·exact sf _ _ _ _ _ _ _ d0 d1 s0 s1 b0 b1 h
  ·exact se _ _ _ _ _ _ _ d0 d1 s0 s1 b0 b1 h
  ·exact sd _ _ _ _ _ _ _ d0 d1 s0 s1 b0 b1 h
  ·exact sb _ _ _ _ _ _ _ d0 d1 s0 s1 b0 b1 h
  ·exact rZ _ _ _ _ _ _ _ d0 d1 s0 s1 b0 b1 h
  ·exact rY _ _ _ _ _ _ _ d0 d1 s0 s1 b0 b1 h
  ·exact rX _ _ _ _ _ _ _ d0 d1 s0 s1 b0 b1 h
  ·exact rW _ _ _ _ _ _ _ d0 d1 s0 s1 b0 b1 h
  ·exact rV _ _ _ _ _ _ _ d0 d1 s0 s1 b0 b1 h
  ·exact rU _ _ _ _ _ _ _ d0 d1 s0 s1 b0 b1 h
  ·exact rT _ _ _ _ _ _ _ d0 d1 s0 s1 b0 b1 h
  ·exact rR _ _ _ _ _ _ _ d0 d1 s0 s1 b0 b1 h
  ·exact rQ _ _ _ _ _ _ _ d0 d1 s0 s1 b0 b1 h
  ·exact rP _ _ _ _ _ _ _ d0 d1 s0 s1 b0 b1 h
  ·exact rO _ _ _ _ _ _ _ d0 d1 s0 s1 b0 b1 h
  ·exact rN _ _ _ _ _ _ _ d0 d1 s0 s1 b0 b1 h
  ·exact rM _ _ _ _ _ _ _ d0 d1 s0 s1 b0 b1 h
  ·exact rL _ _ _ _ _ _ _ d0 d1 s0 s1 b0 b1 h
end Go.Proofs.YtbfpahigdpigpaaGreat
namespace Go.Ev
open Go
theorem H7 (a:Int):a.fdiv 8=a / 8:=Int.fdiv_eq_ediv_of_nonneg _ (by decide)
def IG (n:Int):Prop:=0≤n∧n≤18446744073709551615
theorem tq (v w:Int):aP (aP v w) w=aP v w:=by
 unfold aP
 split
 ·omega
 ·split
  ·omega
  ·split
   ·omega
   ·rfl
def Ic (w k:Int):Int:=IntKind.i64.wrap ((BitVec.ofInt 64 (w.fdiv (2^(min k.toNat 64)))&&&BitVec.ofInt 64 1).toNat:Int)
def Ip (w dst src:Int):Bool:=a8 w&&bl dst&&bl src
theorem cH {sh w dst src base aa af cc:Int} (h:hN sh w dst src base aa af cc=true) (hs:sh=1∨sh=2∨sh=3∨sh=4∨sh=5∨sh=6):a8 w=true:=by
 rcases hs with rfl|rfl|rfl|rfl|rfl|rfl<;>simp [hN] at h<;>first|exact h.1|exact h.1.1|exact h
theorem CR {w dst src base aa af cc:Int} (h:hN 6 w dst src base aa af cc=true):ff cc=true:=by
 simp [hN] at h;exact h.2
theorem yv {w dst src base aa af cc:Int} (h:hN 10 w dst src base aa af cc=true):ff cc=true:=by
 simp [hN] at h;exact h.2
structure ao where
  (q0 q1 q2 q3 q4 q5 q6 q7 q8 q9 bJ bM bQ bP bO bN:Int)
  (fk fc fz fs fo:Bool)
  (pc:Int)
deriving DecidableEq
def ao.d (m:ao):D:= .agg [.int .u64 m.q0,.int .u64 m.q1,.int .u64 m.q2,.int .u64 m.q3,.int .u64 m.q4,.int .u64 m.q5,.int .u64 m.q6,.int .u64 m.q7,.int .u64 m.q8,.int .u64 m.q9,.int .u64 m.bJ,.int .u64 m.bM,.int .u64 m.bQ,.int .u64 m.bP,.int .u64 m.bO,.int .u64 m.bN,.bool m.fk,.bool m.fc,.bool m.fz,.bool m.fs,.bool m.fo,.int .u64 m.pc]
def ao.rl (m:ao):List Int:= [m.q0,m.q1,m.q2,m.q3,m.q4,m.q5,m.q6,m.q7,m.q8,m.q9,m.bJ,m.bM,m.bQ,m.bP,m.bO,m.bN]
def ao.put (m:ao) (i v:Int):ao:=⟨st 0 i v m.q0,st 1 i v m.q1,st 2 i v m.q2,st 3 i v m.q3,st 4 i v m.q4,st 5 i v m.q5,st 6 i v m.q6,st 7 i v m.q7,st 8 i v m.q8,st 9 i v m.q9,st 10 i v m.bJ,st 11 i v m.bM,st 12 i v m.bQ,st 13 i v m.bP,st 14 i v m.bO,st 15 i v m.bN,m.fk,m.fc,m.fz,m.fs,m.fo,m.pc⟩
def ao.flags (m:ao) (k c z s o:Bool):ao:=⟨m.q0,m.q1,m.q2,m.q3,m.q4,m.q5,m.q6,m.q7,m.q8,m.q9,m.bJ,m.bM,m.bQ,m.bP,m.bO,m.bN,k,c,z,s,o,m.pc⟩
def ao.at (m:ao) (v:Int):ao:=⟨m.q0,m.q1,m.q2,m.q3,m.q4,m.q5,m.q6,m.q7,m.q8,m.q9,m.bJ,m.bM,m.bQ,m.bP,m.bO,m.bN,m.fk,m.fc,m.fz,m.fs,m.fo,v⟩
def ao.zero:ao:=⟨0,0,0,0,0,0,0,0,0,0,0,0,0,0,0,0,false,false,false,false,false,0⟩
def XS.len (x:XS):Int:=dz x.op x.w x.dst x.src x.base x.aa x.af x.cc
def XS.may (x:XS):Bool:=cg x.op x.w x.dst x.src x.base x.aa x.af x.cc
def HB (op:Int):Option (Int×Int):=
  match op with
  |2=>some (0,0)
  |3=>some (4,0)
  |4=>some (5,0)
  |5=>some (1,0)
  |6=>some (10,0)
  |7=>some (1,0)
  |8=>some (5,0)
  |9=>some (0,1)
  |10=>some (4,1)
  |11=>some (5,1)
  |12=>some (1,1)
  |13=>some (10,1)
  |14=>some (1,1)
  |15=>some (5,1)
  |16=>some (2,0)
  |17=>some (6,1)
  |18=>some (7,1)
  |19=>some (12,1)
  |20=>some (6,2)
  |21=>some (7,2)
  |22=>some (12,2)
  |23=>some (8,0)
  |_=>none
def HE (m:ao) (x:XS) (k:Int):Int:=match k with
  |2=>m.q1
  |1=>u64 x.af
  |_=>rg m.rl x.src
def Fv (m:ao) (s w a b v:Int):ao:=match s with
  |0=>m.flags true (Fb w a b) (aP (u64 (a+b)) w==0) (gw (u64 (a+b)) w) (Fa w a b)
  |1=>m.flags true (zb w a b) (aP (u64 (a - b)) w==0) (gw (u64 (a - b)) w) (y9 w a b)
  |8=>m.flags true (zb w 0 a) (aP (u64 (0 - a)) w==0) (gw (u64 (0 - a)) w) (y9 w 0 a)
  |4=>m.flags true false (aP v w==0) (gw v w) false
  |5=>m.flags true false (aP v w==0) (gw v w) false
  |10=>m.flags true false (aP v w==0) (gw v w) false
  |_=>m.flags false false false false false
def Gi (op:Int):Bool:=match op with
  |7=>true
  |8=>true
  |14=>true
  |15=>true
  |_=>false
def jT (m:ao) (x:XS) (ld:Int):ao×Int:=match HB x.op with
  |some (s,k)=>
    let a:=rg m.rl x.dst
    let b:=HE m x k
    let v:=gl s x.w a b
    match Gi x.op with
    |true=>(Fv m s x.w a b v,0)
    |false=>((Fv m s x.w a b v).put x.dst v,0)
  |none=>match x.op with
    |0=>(m.put x.dst (aP (rg m.rl x.src) x.w),0)
    |1=>(m.put x.dst (aP (u64 x.af) x.w),0)
    |24=>match aP (rg m.rl x.dst) x.w==0 with
      |true=>(.zero,20)
      |false=>match aP m.q2 x.w==0 with
        |false=>(.zero,20)
        |true=>(({ m with q0:=u64 ((aP m.q0 x.w).tdiv (aP (rg m.rl x.dst) x.w)),q2:=(aP m.q0 x.w).tmod (aP (rg m.rl x.dst) x.w) }).flags false false false false false,0)
    |25=>match m.fk with
      |false=>(.zero,20)
      |true=>(m.put x.dst (aP (if dr x.cc m.fc m.fz m.fs m.fo then rg m.rl x.src else rg m.rl x.dst) x.w),0)
    |26=>(m.put x.dst (aP ld x.w),0)
    |28=>(m.at (u64 (m.pc+u64 x.af)),0)
    |29=>match m.fk with
      |false=>(.zero,20)
      |true=>(m.at (if dr x.cc m.fc m.fz m.fs m.fo then u64 (m.pc+u64 x.af) else m.pc),0)
    |30=>(({ m with q4:=u64 (m.q4+8) }).at ld,0)
    |31=>({ m with q0:=ld,q1:=0,bM:=0 },0)
    |_=>(m,0)
def fw (m:ao) (x:XS) (ld:Int):ao×Int:=match x.may with
  |false=>(.zero,2)
  |true=>jT (m.at (u64 (m.pc+u64 x.len))) x ld
def H9 (m:ao) (x:XS) (ld:Int):ao:=(fw m x ld).1
def Ia (m:ao) (x:XS) (ld:Int):Int:=(fw m x ld).2
theorem Df {m:ao} {x:XS} {ld:Int} (h:x.may=false):fw m x ld=(.zero,2):=by unfold fw;rw [h]
theorem ru {m:ao} {x:XS} {ld:Int} (h:x.may=true):fw m x ld=jT (m.at (u64 (m.pc+u64 x.len))) x ld:=by unfold fw;rw [h]
def dU (m:ao) (op w dst src base aa af cc:Int):Int:=u64 (m.pc+u64 (dz op w dst src base aa af cc))
def xT (op w dst src base aa af cc ld:Int):List D:= [.int .i8 op,.int .i8 w,.int .i8 dst,.int .i8 src,.int .i8 base,.int .i64 aa,.int .i64 af,.int .i8 cc,.int .u64 ld]
def fT (m:ao) (p:Int) (tl:List D):List D:= .bool m.fk:: .bool m.fc:: .bool m.fz:: .bool m.fs:: .bool m.fo:: .int .u64 p::tl
def zC:List D:= [.int .u64 0,.int .u64 0,.int .u64 0,.int .u64 0,.int .u64 0,.int .u64 0,.int .u64 0,.int .u64 0,.int .u64 0,.int .u64 0,.int .u64 0,.int .u64 0,.int .u64 0,.int .u64 0,.int .u64 0,.int .u64 0,.bool false,.bool false,.bool false,.bool false,.bool false,.int .u64 0]
def ao.cw (m:ao) (p:Int) (tl:List D):List D:= .int .u64 m.q0:: .int .u64 m.q1:: .int .u64 m.q2:: .int .u64 m.q3:: .int .u64 m.q4:: .int .u64 m.q5:: .int .u64 m.q6:: .int .u64 m.q7:: .int .u64 m.q8:: .int .u64 m.q9:: .int .u64 m.bJ:: .int .u64 m.bM:: .int .u64 m.bQ:: .int .u64 m.bP:: .int .u64 m.bO:: .int .u64 m.bN:: .bool m.fk:: .bool m.fc:: .bool m.fz:: .bool m.fs:: .bool m.fo:: .int .u64 p::tl
theorem bz (m:ao) (i:Int) (tl:List D) (h0:0≤i) (h1:i≤15):(D.int .u64 m.q0::D.int .u64 m.q1::D.int .u64 m.q2::D.int .u64 m.q3::D.int .u64 m.q4::D.int .u64 m.q5::D.int .u64 m.q6::D.int .u64 m.q7::D.int .u64 m.q8::D.int .u64 m.q9::D.int .u64 m.bJ::D.int .u64 m.bM::D.int .u64 m.bQ::D.int .u64 m.bP::D.int .u64 m.bO::D.int .u64 m.bN::tl:List D)[0+i.toNat*1]? =some (.int .u64 (rg m.rl i)):=kZ h0 h1
theorem cP (m:ao) (i v:Int) (tl:List D) (h0:0≤i) (h1:i≤15):yM (D.int .u64 m.q0::D.int .u64 m.q1::D.int .u64 m.q2::D.int .u64 m.q3::D.int .u64 m.q4::D.int .u64 m.q5::D.int .u64 m.q6::D.int .u64 m.q7::D.int .u64 m.q8::D.int .u64 m.q9::D.int .u64 m.bJ::D.int .u64 m.bM::D.int .u64 m.bQ::D.int .u64 m.bP::D.int .u64 m.bO::D.int .u64 m.bN::tl:List D) (0+i.toNat*1) [D.int .u64 v] (D.int .u64 (m.put i v).q0::D.int .u64 (m.put i v).q1::D.int .u64 (m.put i v).q2::D.int .u64 (m.put i v).q3::D.int .u64 (m.put i v).q4::D.int .u64 (m.put i v).q5::D.int .u64 (m.put i v).q6::D.int .u64 (m.put i v).q7::D.int .u64 (m.put i v).q8::D.int .u64 (m.put i v).q9::D.int .u64 (m.put i v).bJ::D.int .u64 (m.put i v).bM::D.int .u64 (m.put i v).bQ::D.int .u64 (m.put i v).bP::D.int .u64 (m.put i v).bO::D.int .u64 (m.put i v).bN::tl):=sD h0 h1
def Ih (m:ao) (x:XS):Int×Int×Bool:=
  if x.may=true∧(x.op=26∨x.op=27) then (u64 (rg m.rl x.base+u64 x.aa),x.w / 8,true)
  else if x.may=true∧x.op=30 then (m.q4,8,true)
  else (0,0,false)
def Hp (m:ao) (x:XS):Int:=if x.may=true∧x.op=27 then aP (rg m.rl x.src) x.w else 0
def Io (m:ao):Int×Bool:=if 16≤m.q0 then (0,false) else (IntKind.i64.wrap m.q0,true)
def lS (q:Int):Int:=if 16≤q then 0 else IntKind.i64.wrap q
def qu (q:Int):Bool:= !decide (16≤q)
theorem FU {q:Int} (h:16≤q):qu q=false:=by unfold qu;simp;omega
theorem CM {q:Int} (h:decide (q<16)=true):wk (.aA [.int .i64 (IntKind.i64.wrap q),.bool true]) (.aA [.int .i64 (lS q),.bool (qu q)]):=by
 rw [decide_eq_true_eq] at h
 have e:lS q=IntKind.i64.wrap q:=by unfold lS;rw [if_neg (by omega)]
 have f:qu q=true:=by unfold qu;simp;omega
 rw [e,f];simp [wk,aw]
theorem CN {q:Int} (h:decide (q<16)=false):wk (.aA [.int .i64 0,.bool false]) (.aA [.int .i64 (lS q),.bool (qu q)]):=by
 rw [decide_eq_false_iff_not] at h
 have e:lS q=0:=by unfold lS;rw [if_pos (by omega)]
 have f:qu q=false:=FU (by omega)
 rw [e,f];simp [wk,aw]
def Ie (m:ao):List Int:=if 16≤m.q0 then [] else [m.q7,m.q6,m.q2,m.bJ,m.q8].take (m.q0.toNat%6)
def wD (l:List Int):List D:=l.map (fun x=> .int .u64 x)
def H2 (cc:Int):Int×Bool:=
  if cc=0 then (4,true) else if cc=1 then (5,true) else if cc=2 then (7,true) else if cc=3 then (3,true) else if cc=4 then (2,true) else if cc=5 then (6,true)
  else if cc=6 then (15,true) else if cc=7 then (13,true) else if cc=8 then (12,true) else if cc=9 then (14,true) else if cc=10 then (5,true) else (0,false)
def Iy (cc:Int):Int×Bool:=
  if cc=4 then (0,true) else if cc=5 then (1,true) else if cc=7 then (2,true) else if cc=3 then (3,true) else if cc=2 then (4,true) else if cc=6 then (5,true)
  else if cc=15 then (6,true) else if cc=13 then (7,true) else if cc=12 then (8,true) else if cc=14 then (9,true) else (0,false)
end Go.Ev
namespace Go.Proofs.YtbfpahigdpigpaaGreat
open Go Go.Ev
theorem A8 (m:ao) (w dst src base aa af cc ld:Int) (d0:0≤dst) (d1:dst≤15) (s0:0≤src) (s1:src≤15) (b0:0≤base) (b1:base≤15) (hm:cg 2 w dst src base aa af cc=true) (hw:a8 w=true):aE Tryz.prog 83 ([m.d,xD 2 w dst src base aa af cc,.int .u64 ld]) (.aA [(jT (m.at (u64 (m.pc+u64 (dz 2 w dst src base aa af cc)))) ⟨2,w,dst,src,base,aa,af,cc⟩ ld).1.d,.int .i64 0]):=by
 have c0:= @aJ 2 w dst src base aa af cc (by decide)
 rw [show (cg 2 w dst src base aa af cc)=true from hm] at c0
 have c1:= @bU 2 w dst src base aa af cc (by decide)
 have c2:= @vL w (rg (ao.rl m) dst) (rg (ao.rl m) src) hw
 have c3:= @yG w (rg (ao.rl m) dst) (rg (ao.rl m) src) hw
 have c4:= @bf 2 w dst src base aa af cc (by decide)
 exact (jK (d:= .aA [(jT (m.at (u64 (m.pc+u64 (dz 2 w dst src base aa af cc)))) ⟨2,w,dst,src,base,aa,af,cc⟩ ld).1.d,.int .i64 0]) ([.ret _ _ _ c0,tF,.ret _ _ _ c1,tT,.get ([D.fn (Fn.func 117) [.ptr false 4 0] [],D.fn (Fn.func 118) [.ptr false 4 0] [],D.aq,D.aq,D.aq,D.aq,D.aq,D.aq,D.aq,D.aq,D.aq,D.aq,D.aq,D.aq,D.aq,D.aq,D.aq,D.aq,D.aq,D.aq,D.aq,D.aq,D.aq,D.aq,D.fn (Fn.func 119) [.ptr false 4 0] [],D.fn (Fn.func 120) [.ptr false 4 0] [],D.fn (Fn.func 121) [.ptr false 4 0] [],D.fn (Fn.func 122) [.ptr false 4 0] [],D.fn (Fn.func 123) [.ptr false 4 0] [],D.fn (Fn.func 124) [.ptr false 4 0] [],D.fn (Fn.func 125) [.ptr false 4 0] [],D.fn (Fn.func 126) [.ptr false 4 0] []]) 2 (D.aq) rfl,tT,.inl,.inl,.aB [(4,.box (ao.cw m (dU m 2 w dst src base aa af cc) (xT 2 w dst src base aa af cc ld)))],.ik ([(2,.int .i8 0),(9,.int .i8 0),(3,.int .i8 4),(10,.int .i8 4),(4,.int .i8 5),(11,.int .i8 5),(8,.int .i8 5),(15,.int .i8 5),(5,.int .i8 1),(12,.int .i8 1),(7,.int .i8 1),(14,.int .i8 1),(6,.int .i8 10),(13,.int .i8 10),(16,.int .i8 2),(17,.int .i8 6),(20,.int .i8 6),(18,.int .i8 7),(21,.int .i8 7),(19,.int .i8 12),(22,.int .i8 12),(23,.int .i8 8)]) 2 (some (.int .i8 0)) rfl,.cU _ true (dD d0 d1),.get _ _ _ (@bz m dst ((fT m (dU m 2 w dst src base aa af cc) (xT 2 w dst src base aa af cc ld))) d0 d1),.inl]++List.replicate 24 tF++ [.cU _ true (dD s0 s1),.get _ _ _ (@bz m src ((fT m (dU m 2 w dst src base aa af cc) (xT 2 w dst src base aa af cc ld))) s0 s1),.aB [(4,.box (ao.cw m (dU m 2 w dst src base aa af cc) (xT 2 w dst src base aa af cc ld)))],.ret _ _ _ c2,tF,tT,.ret _ _ _ c3,.ret _ _ _ c4,tC (nt (@gF 2 w dst src base aa af cc hm d0 d1 (rfl:true=true))),.cU _ true (dD d0 d1),.cm _ _ _ _ (@cP m dst (gl 0 w (rg (ao.rl m) dst) (rg (ao.rl m) src)) ([.bool true,.bool (Fb w (rg (ao.rl m) dst) (rg (ao.rl m) src)),.bool (aP (u64 (rg (ao.rl m) dst+rg (ao.rl m) src)) w==0),.bool (gw (u64 (rg (ao.rl m) dst+rg (ao.rl m) src)) w),.bool (Fa w (rg (ao.rl m) dst) (rg (ao.rl m) src)),.int .u64 (dU m 2 w dst src base aa af cc),.int .i8 2,.int .i8 w,.int .i8 dst,.int .i8 src,.int .i8 base,.int .i64 aa,.int .i64 af,.int .i8 cc,.int .u64 ld]) d0 d1),tF]) (by kernel_rfl))
def oS:List D:= [D.fn (Fn.func 117) [.ptr false 4 0] [],D.fn (Fn.func 118) [.ptr false 4 0] [],D.aq,D.aq,D.aq,D.aq,D.aq,D.aq,D.aq,D.aq,D.aq,D.aq,D.aq,D.aq,D.aq,D.aq,D.aq,D.aq,D.aq,D.aq,D.aq,D.aq,D.aq,D.aq,D.fn (Fn.func 119) [.ptr false 4 0] [],D.fn (Fn.func 120) [.ptr false 4 0] [],D.fn (Fn.func 121) [.ptr false 4 0] [],D.fn (Fn.func 122) [.ptr false 4 0] [],D.fn (Fn.func 123) [.ptr false 4 0] [],D.fn (Fn.func 124) [.ptr false 4 0] [],D.fn (Fn.func 125) [.ptr false 4 0] [],D.fn (Fn.func 126) [.ptr false 4 0] []]
def oQ:List (Int×D):= [((2:Int),.int .i8 0),((9:Int),.int .i8 0),((3:Int),.int .i8 4),((10:Int),.int .i8 4),((4:Int),.int .i8 5),((11:Int),.int .i8 5),((8:Int),.int .i8 5),((15:Int),.int .i8 5),((5:Int),.int .i8 1),((12:Int),.int .i8 1),((7:Int),.int .i8 1),((14:Int),.int .i8 1),((6:Int),.int .i8 10),((13:Int),.int .i8 10),((16:Int),.int .i8 2),((17:Int),.int .i8 6),((20:Int),.int .i8 6),((18:Int),.int .i8 7),((21:Int),.int .i8 7),((19:Int),.int .i8 12),((22:Int),.int .i8 12),((23:Int),.int .i8 8)]
def l6 (k0_:Int):Prop:= ∀(m:ao) (w dst src base aa af cc ld:Int) (d0:0≤dst) (d1:dst≤15) (s0:0≤src) (s1:src≤15) (b0:0≤base) (b1:base≤15) (hm:cg k0_ w dst src base aa af cc=true) (hw:a8 w=true),aE Tryz.prog 83 ([m.d,xD k0_ w dst src base aa af cc,.int .u64 ld]) (.aA [(jT (m.at (u64 (m.pc+u64 (dz k0_ w dst src base aa af cc)))) ⟨k0_,w,dst,src,base,aa,af,cc⟩ ld).1.d,.int .i64 0])
theorem A7:l6 3:=by
 intro m w dst src base aa af cc ld d0 d1 s0 s1 b0 b1 hm hw
 have c0:= @aJ 3 w dst src base aa af cc (by decide)
 rw [hm] at c0
 have c1:= @bU 3 w dst src base aa af cc (by decide)
 have c2:= @vK w (rg (ao.rl m) dst) (rg (ao.rl m) src) hw
 have c3:= @jg w (gl 4 w (rg (ao.rl m) dst) (rg (ao.rl m) src)) hw
 have c4:= @bf 3 w dst src base aa af cc (by decide)
 exact (jK (d:= .aA [(jT (m.at (u64 (m.pc+u64 (dz 3 w dst src base aa af cc)))) ⟨3,w,dst,src,base,aa,af,cc⟩ ld).1.d,.int .i64 0]) ([.ret _ _ _ c0,tF,.ret _ _ _ c1,tT,.get oS 3 (.aq) rfl,tT,.inl,.inl,.aB [(4,.box (ao.cw m (dU m 3 w dst src base aa af cc) (xT 3 w dst src base aa af cc ld)))],.ik oQ 3 (some (.int .i8 4)) rfl,.cU _ true (dD d0 d1),.get _ _ _ (@bz m dst ((fT m (dU m 3 w dst src base aa af cc) (xT 3 w dst src base aa af cc ld))) d0 d1),.inl]++List.replicate 24 tF++ [.cU _ true (dD s0 s1),.get _ _ _ (@bz m src ((fT m (dU m 3 w dst src base aa af cc) (xT 3 w dst src base aa af cc ld))) s0 s1),.aB [(4,.box (ao.cw m (dU m 3 w dst src base aa af cc) (xT 3 w dst src base aa af cc ld)))],.ret _ _ _ c2,tF,tF,tF,tF,tT,tT,.ret _ _ _ c3,.ret _ _ _ c4,tC (nt (@gF 3 w dst src base aa af cc hm d0 d1 (rfl:true=true))),.cU _ true (dD d0 d1),.cm _ _ _ _ (@cP m dst (gl 4 w (rg (ao.rl m) dst) (rg (ao.rl m) src)) ([.bool true,.bool false,.bool (aP (gl 4 w (rg (ao.rl m) dst) (rg (ao.rl m) src)) w==0),.bool (gw (gl 4 w (rg (ao.rl m) dst) (rg (ao.rl m) src)) w),.bool false,.int .u64 (dU m 3 w dst src base aa af cc),.int .i8 3,.int .i8 w,.int .i8 dst,.int .i8 src,.int .i8 base,.int .i64 aa,.int .i64 af,.int .i8 cc,.int .u64 ld]) d0 d1),tF]) (by kernel_rfl))
theorem A6:l6 4:=by
 intro m w dst src base aa af cc ld d0 d1 s0 s1 b0 b1 hm hw
 have c0:= @aJ 4 w dst src base aa af cc (by decide)
 rw [hm] at c0
 have c1:= @bU 4 w dst src base aa af cc (by decide)
 have c2:= @mL w (rg (ao.rl m) dst) (rg (ao.rl m) src) hw
 have c3:= @jg w (gl 5 w (rg (ao.rl m) dst) (rg (ao.rl m) src)) hw
 have c4:= @bf 4 w dst src base aa af cc (by decide)
 exact (jK (d:= .aA [(jT (m.at (u64 (m.pc+u64 (dz 4 w dst src base aa af cc)))) ⟨4,w,dst,src,base,aa,af,cc⟩ ld).1.d,.int .i64 0]) ([.ret _ _ _ c0,tF,.ret _ _ _ c1,tT,.get oS 4 (.aq) rfl,tT,.inl,.inl,.aB [(4,.box (ao.cw m (dU m 4 w dst src base aa af cc) (xT 4 w dst src base aa af cc ld)))],.ik oQ 4 (some (.int .i8 5)) rfl,.cU _ true (dD d0 d1),.get _ _ _ (@bz m dst ((fT m (dU m 4 w dst src base aa af cc) (xT 4 w dst src base aa af cc ld))) d0 d1),.inl]++List.replicate 24 tF++ [.cU _ true (dD s0 s1),.get _ _ _ (@bz m src ((fT m (dU m 4 w dst src base aa af cc) (xT 4 w dst src base aa af cc ld))) s0 s1),.aB [(4,.box (ao.cw m (dU m 4 w dst src base aa af cc) (xT 4 w dst src base aa af cc ld)))],.ret _ _ _ c2,tF,tF,tF,tF,tF,tT,tT,.ret _ _ _ c3,.ret _ _ _ c4,tC (nt (@gF 4 w dst src base aa af cc hm d0 d1 (rfl:true=true))),.cU _ true (dD d0 d1),.cm _ _ _ _ (@cP m dst (gl 5 w (rg (ao.rl m) dst) (rg (ao.rl m) src)) ([.bool true,.bool false,.bool (aP (gl 5 w (rg (ao.rl m) dst) (rg (ao.rl m) src)) w==0),.bool (gw (gl 5 w (rg (ao.rl m) dst) (rg (ao.rl m) src)) w),.bool false,.int .u64 (dU m 4 w dst src base aa af cc),.int .i8 4,.int .i8 w,.int .i8 dst,.int .i8 src,.int .i8 base,.int .i64 aa,.int .i64 af,.int .i8 cc,.int .u64 ld]) d0 d1),tF]) (by kernel_rfl))
theorem A5:l6 5:=by
 intro m w dst src base aa af cc ld d0 d1 s0 s1 b0 b1 hm hw
 have c0:= @aJ 5 w dst src base aa af cc (by decide)
 rw [hm] at c0
 have c1:= @bU 5 w dst src base aa af cc (by decide)
 have c2:= @mM w (rg (ao.rl m) dst) (rg (ao.rl m) src) hw
 have c3:= @mC w (rg (ao.rl m) dst) (rg (ao.rl m) src) hw
 have c4:= @bf 5 w dst src base aa af cc (by decide)
 exact (jK (d:= .aA [(jT (m.at (u64 (m.pc+u64 (dz 5 w dst src base aa af cc)))) ⟨5,w,dst,src,base,aa,af,cc⟩ ld).1.d,.int .i64 0]) ([.ret _ _ _ c0,tF,.ret _ _ _ c1,tT,.get oS 5 (.aq) rfl,tT,.inl,.inl,.aB [(4,.box (ao.cw m (dU m 5 w dst src base aa af cc) (xT 5 w dst src base aa af cc ld)))],.ik oQ 5 (some (.int .i8 1)) rfl,.cU _ true (dD d0 d1),.get _ _ _ (@bz m dst ((fT m (dU m 5 w dst src base aa af cc) (xT 5 w dst src base aa af cc ld))) d0 d1),.inl]++List.replicate 24 tF++ [.cU _ true (dD s0 s1),.get _ _ _ (@bz m src ((fT m (dU m 5 w dst src base aa af cc) (xT 5 w dst src base aa af cc ld))) s0 s1),.aB [(4,.box (ao.cw m (dU m 5 w dst src base aa af cc) (xT 5 w dst src base aa af cc ld)))],.ret _ _ _ c2,tF,tF,tT,.ret _ _ _ c3,.ret _ _ _ c4,tC (nt (@gF 5 w dst src base aa af cc hm d0 d1 (rfl:true=true))),.cU _ true (dD d0 d1),.cm _ _ _ _ (@cP m dst (gl 1 w (rg (ao.rl m) dst) (rg (ao.rl m) src)) ([.bool true,.bool (zb w (rg (ao.rl m) dst) (rg (ao.rl m) src)),.bool (aP (u64 (rg (ao.rl m) dst - rg (ao.rl m) src)) w==0),.bool (gw (u64 (rg (ao.rl m) dst - rg (ao.rl m) src)) w),.bool (y9 w (rg (ao.rl m) dst) (rg (ao.rl m) src)),.int .u64 (dU m 5 w dst src base aa af cc),.int .i8 5,.int .i8 w,.int .i8 dst,.int .i8 src,.int .i8 base,.int .i64 aa,.int .i64 af,.int .i8 cc,.int .u64 ld]) d0 d1),tF]) (by kernel_rfl))
theorem A4:l6 6:=by
 intro m w dst src base aa af cc ld d0 d1 s0 s1 b0 b1 hm hw
 have c0:= @aJ 6 w dst src base aa af cc (by decide)
 rw [hm] at c0
 have c1:= @bU 6 w dst src base aa af cc (by decide)
 have c2:= @rH w (rg (ao.rl m) dst) (rg (ao.rl m) src) hw
 have c3:= @jg w (gl 10 w (rg (ao.rl m) dst) (rg (ao.rl m) src)) hw
 have c4:= @bf 6 w dst src base aa af cc (by decide)
 exact (jK (d:= .aA [(jT (m.at (u64 (m.pc+u64 (dz 6 w dst src base aa af cc)))) ⟨6,w,dst,src,base,aa,af,cc⟩ ld).1.d,.int .i64 0]) ([.ret _ _ _ c0,tF,.ret _ _ _ c1,tT,.get oS 6 (.aq) rfl,tT,.inl,.inl,.aB [(4,.box (ao.cw m (dU m 6 w dst src base aa af cc) (xT 6 w dst src base aa af cc ld)))],.ik oQ 6 (some (.int .i8 10)) rfl,.cU _ true (dD d0 d1),.get _ _ _ (@bz m dst ((fT m (dU m 6 w dst src base aa af cc) (xT 6 w dst src base aa af cc ld))) d0 d1),.inl]++List.replicate 24 tF++ [.cU _ true (dD s0 s1),.get _ _ _ (@bz m src ((fT m (dU m 6 w dst src base aa af cc) (xT 6 w dst src base aa af cc ld))) s0 s1),.aB [(4,.box (ao.cw m (dU m 6 w dst src base aa af cc) (xT 6 w dst src base aa af cc ld)))],.ret _ _ _ c2,tF,tF,tF,tF,tF,tF,tT,.ret _ _ _ c3,.ret _ _ _ c4,tC (nt (@gF 6 w dst src base aa af cc hm d0 d1 (rfl:true=true))),.cU _ true (dD d0 d1),.cm _ _ _ _ (@cP m dst (gl 10 w (rg (ao.rl m) dst) (rg (ao.rl m) src)) ([.bool true,.bool false,.bool (aP (gl 10 w (rg (ao.rl m) dst) (rg (ao.rl m) src)) w==0),.bool (gw (gl 10 w (rg (ao.rl m) dst) (rg (ao.rl m) src)) w),.bool false,.int .u64 (dU m 6 w dst src base aa af cc),.int .i8 6,.int .i8 w,.int .i8 dst,.int .i8 src,.int .i8 base,.int .i64 aa,.int .i64 af,.int .i8 cc,.int .u64 ld]) d0 d1),tF]) (by kernel_rfl))
theorem A3:l6 7:=by
 intro m w dst src base aa af cc ld d0 d1 s0 s1 b0 b1 hm hw
 have c0:= @aJ 7 w dst src base aa af cc (by decide)
 rw [hm] at c0
 have c1:= @bU 7 w dst src base aa af cc (by decide)
 have c2:= @mM w (rg (ao.rl m) dst) (rg (ao.rl m) src) hw
 have c3:= @mC w (rg (ao.rl m) dst) (rg (ao.rl m) src) hw
 have c4:= @bf 7 w dst src base aa af cc (by decide)
 exact (jK (d:= .aA [(jT (m.at (u64 (m.pc+u64 (dz 7 w dst src base aa af cc)))) ⟨7,w,dst,src,base,aa,af,cc⟩ ld).1.d,.int .i64 0]) ([.ret _ _ _ c0,tF,.ret _ _ _ c1,tT,.get oS 7 (.aq) rfl,tT,.inl,.inl,.aB [(4,.box (ao.cw m (dU m 7 w dst src base aa af cc) (xT 7 w dst src base aa af cc ld)))],.ik oQ 7 (some (.int .i8 1)) rfl,.cU _ true (dD d0 d1),.get _ _ _ (@bz m dst ((fT m (dU m 7 w dst src base aa af cc) (xT 7 w dst src base aa af cc ld))) d0 d1),.inl]++List.replicate 24 tF++ [.cU _ true (dD s0 s1),.get _ _ _ (@bz m src ((fT m (dU m 7 w dst src base aa af cc) (xT 7 w dst src base aa af cc ld))) s0 s1),.aB [(4,.box (ao.cw m (dU m 7 w dst src base aa af cc) (xT 7 w dst src base aa af cc ld)))],.ret _ _ _ c2,tF,tF,tT,.ret _ _ _ c3,.ret _ _ _ c4,tC (nt (de 0 true (eq_of_beq (@DG 7 w dst src base aa af cc (rfl:false=false))))),tF]) (by kernel_rfl))
theorem A2:l6 8:=by
 intro m w dst src base aa af cc ld d0 d1 s0 s1 b0 b1 hm hw
 have c0:= @aJ 8 w dst src base aa af cc (by decide)
 rw [hm] at c0
 have c1:= @bU 8 w dst src base aa af cc (by decide)
 have c2:= @mL w (rg (ao.rl m) dst) (rg (ao.rl m) src) hw
 have c3:= @jg w (gl 5 w (rg (ao.rl m) dst) (rg (ao.rl m) src)) hw
 have c4:= @bf 8 w dst src base aa af cc (by decide)
 exact (jK (d:= .aA [(jT (m.at (u64 (m.pc+u64 (dz 8 w dst src base aa af cc)))) ⟨8,w,dst,src,base,aa,af,cc⟩ ld).1.d,.int .i64 0]) ([.ret _ _ _ c0,tF,.ret _ _ _ c1,tT,.get oS 8 (.aq) rfl,tT,.inl,.inl,.aB [(4,.box (ao.cw m (dU m 8 w dst src base aa af cc) (xT 8 w dst src base aa af cc ld)))],.ik oQ 8 (some (.int .i8 5)) rfl,.cU _ true (dD d0 d1),.get _ _ _ (@bz m dst ((fT m (dU m 8 w dst src base aa af cc) (xT 8 w dst src base aa af cc ld))) d0 d1),.inl]++List.replicate 24 tF++ [.cU _ true (dD s0 s1),.get _ _ _ (@bz m src ((fT m (dU m 8 w dst src base aa af cc) (xT 8 w dst src base aa af cc ld))) s0 s1),.aB [(4,.box (ao.cw m (dU m 8 w dst src base aa af cc) (xT 8 w dst src base aa af cc ld)))],.ret _ _ _ c2,tF,tF,tF,tF,tF,tT,tT,.ret _ _ _ c3,.ret _ _ _ c4,tC (nt (de 0 true (eq_of_beq (@DG 8 w dst src base aa af cc (rfl:false=false))))),tF]) (by kernel_rfl))
theorem xn:l6 12:=by
 intro m w dst src base aa af cc ld d0 d1 s0 s1 b0 b1 hm hw
 have c0:= @aJ 12 w dst src base aa af cc (by decide)
 rw [hm] at c0
 have c1:= @bU 12 w dst src base aa af cc (by decide)
 have c2:= @mM w (rg (ao.rl m) dst) (IntKind.wrap IntKind.u64 af) hw
 have c3:= @mC w (rg (ao.rl m) dst) (IntKind.wrap IntKind.u64 af) hw
 have c4:= @bf 12 w dst src base aa af cc (by decide)
 exact (jK (d:= .aA [(jT (m.at (u64 (m.pc+u64 (dz 12 w dst src base aa af cc)))) ⟨12,w,dst,src,base,aa,af,cc⟩ ld).1.d,.int .i64 0]) ([.ret _ _ _ c0,tF,.ret _ _ _ c1,tT,.get oS 12 (.aq) rfl,tT,.inl,.inl,.aB [(4,.box (ao.cw m (dU m 12 w dst src base aa af cc) (xT 12 w dst src base aa af cc ld)))],.ik oQ 12 (some (.int .i8 1)) rfl,.cU _ true (dD d0 d1),.get _ _ _ (@bz m dst ((fT m (dU m 12 w dst src base aa af cc) (xT 12 w dst src base aa af cc ld))) d0 d1),.inl]++List.replicate 8 tF++List.replicate 9 tT++ [.aB [(4,.box (ao.cw m (dU m 12 w dst src base aa af cc) (xT 12 w dst src base aa af cc ld)))],.ret _ _ _ c2,tF,tF,tT,.ret _ _ _ c3,.ret _ _ _ c4,tC (nt (@gF 12 w dst src base aa af cc hm d0 d1 (rfl:true=true))),.cU _ true (dD d0 d1),.cm _ _ _ _ (@cP m dst (gl 1 w (rg (ao.rl m) dst) (IntKind.wrap IntKind.u64 af)) ([.bool true,.bool (zb w (rg (ao.rl m) dst) (IntKind.wrap IntKind.u64 af)),.bool (aP (u64 (rg (ao.rl m) dst - IntKind.wrap IntKind.u64 af)) w==0),.bool (gw (u64 (rg (ao.rl m) dst - IntKind.wrap IntKind.u64 af)) w),.bool (y9 w (rg (ao.rl m) dst) (IntKind.wrap IntKind.u64 af)),.int .u64 (dU m 12 w dst src base aa af cc),.int .i8 12,.int .i8 w,.int .i8 dst,.int .i8 src,.int .i8 base,.int .i64 aa,.int .i64 af,.int .i8 cc,.int .u64 ld]) d0 d1),tF]) (by kernel_rfl))
def oP:List D:= [D.fn (Fn.func 117) [.ptr false 4 0] [],D.fn (Fn.func 118) [.ptr false 4 0] [],D.aq,D.aq,D.aq,D.aq,D.aq,D.aq,D.aq,D.aq,D.aq,D.aq,D.aq,D.aq,D.aq,D.aq,D.aq,D.aq,D.aq,D.aq,D.aq,D.aq,D.aq,D.aq,D.fn (Fn.func 119) [.ptr false 4 0] [],D.fn (Fn.func 120) [.ptr false 4 0] [],D.fn (Fn.func 121) [.ptr false 4 0] [],D.fn (Fn.func 122) [.ptr false 4 0] [],D.fn (Fn.func 123) [.ptr false 4 0] [],D.fn (Fn.func 124) [.ptr false 4 0] [],D.fn (Fn.func 125) [.ptr false 4 0] [],D.fn (Fn.func 126) [.ptr false 4 0] []]
def oO:List (Int×D):= [((2:Int),.int .i8 0),((9:Int),.int .i8 0),((3:Int),.int .i8 4),((10:Int),.int .i8 4),((4:Int),.int .i8 5),((11:Int),.int .i8 5),((8:Int),.int .i8 5),((15:Int),.int .i8 5),((5:Int),.int .i8 1),((12:Int),.int .i8 1),((7:Int),.int .i8 1),((14:Int),.int .i8 1),((6:Int),.int .i8 10),((13:Int),.int .i8 10),((16:Int),.int .i8 2),((17:Int),.int .i8 6),((20:Int),.int .i8 6),((18:Int),.int .i8 7),((21:Int),.int .i8 7),((19:Int),.int .i8 12),((22:Int),.int .i8 12),((23:Int),.int .i8 8)]
def l5 (k0_:Int):Prop:= ∀(m:ao) (w dst src base aa af cc ld:Int) (d0:0≤dst) (d1:dst≤15) (s0:0≤src) (s1:src≤15) (b0:0≤base) (b1:base≤15) (hm:cg k0_ w dst src base aa af cc=true) (hw:a8 w=true),aE Tryz.prog 83 ([m.d,xD k0_ w dst src base aa af cc,.int .u64 ld]) (.aA [(jT (m.at (u64 (m.pc+u64 (dz k0_ w dst src base aa af cc)))) ⟨k0_,w,dst,src,base,aa,af,cc⟩ ld).1.d,.int .i64 0])
theorem xi:l5 17:=by
 intro m w dst src base aa af cc ld d0 d1 s0 s1 b0 b1 hm hw
 have c0:= @aJ 17 w dst src base aa af cc (by decide)
 rw [hm] at c0
 have c1:= @bU 17 w dst src base aa af cc (by decide)
 have c2:= @vJ w (rg (ao.rl m) dst) (IntKind.wrap IntKind.u64 af) hw
 have c3:= @b8
 have c4:= @bf 17 w dst src base aa af cc (by decide)
 exact (jK (d:= .aA [(jT (m.at (u64 (m.pc+u64 (dz 17 w dst src base aa af cc)))) ⟨17,w,dst,src,base,aa,af,cc⟩ ld).1.d,.int .i64 0]) ([.ret _ _ _ c0,tF,.ret _ _ _ c1,tT,.get oP 17 (.aq) rfl,tT,.inl,.inl,.aB [(4,.box (ao.cw m (dU m 17 w dst src base aa af cc) (xT 17 w dst src base aa af cc ld)))],.ik oO 17 (some (.int .i8 6)) rfl,.cU _ true (dD d0 d1),.get _ _ _ (@bz m dst ((fT m (dU m 17 w dst src base aa af cc) (xT 17 w dst src base aa af cc ld))) d0 d1),.inl]++List.replicate 8 tF++ [tT,tT,tT,tT,tT,tT,tT,tF]++List.replicate 8 tT++ [.aB [(4,.box (ao.cw m (dU m 17 w dst src base aa af cc) (xT 17 w dst src base aa af cc ld)))],.ret _ _ _ c2,tF,tF,tF,tF,tF,tF,tF,.ret _ _ _ c3,.ret _ _ _ c4,tC (nt (@gF 17 w dst src base aa af cc hm d0 d1 (rfl:true=true))),.cU _ true (dD d0 d1),.cm _ _ _ _ (@cP m dst (gl 6 w (rg (ao.rl m) dst) (IntKind.wrap IntKind.u64 af)) ([.bool false,.bool false,.bool false,.bool false,.bool false,.int .u64 (dU m 17 w dst src base aa af cc),.int .i8 17,.int .i8 w,.int .i8 dst,.int .i8 src,.int .i8 base,.int .i64 aa,.int .i64 af,.int .i8 cc,.int .u64 ld]) d0 d1),tF]) (by kernel_rfl))
theorem xh:l5 18:=by
 intro m w dst src base aa af cc ld d0 d1 s0 s1 b0 b1 hm hw
 have c0:= @aJ 18 w dst src base aa af cc (by decide)
 rw [hm] at c0
 have c1:= @bU 18 w dst src base aa af cc (by decide)
 have c2:= @vI w (rg (ao.rl m) dst) (IntKind.wrap IntKind.u64 af) hw
 have c3:= @b8
 have c4:= @bf 18 w dst src base aa af cc (by decide)
 exact (jK (d:= .aA [(jT (m.at (u64 (m.pc+u64 (dz 18 w dst src base aa af cc)))) ⟨18,w,dst,src,base,aa,af,cc⟩ ld).1.d,.int .i64 0]) ([.ret _ _ _ c0,tF,.ret _ _ _ c1,tT,.get oP 18 (.aq) rfl,tT,.inl,.inl,.aB [(4,.box (ao.cw m (dU m 18 w dst src base aa af cc) (xT 18 w dst src base aa af cc ld)))],.ik oO 18 (some (.int .i8 7)) rfl,.cU _ true (dD d0 d1),.get _ _ _ (@bz m dst ((fT m (dU m 18 w dst src base aa af cc) (xT 18 w dst src base aa af cc ld))) d0 d1),.inl]++List.replicate 8 tF++ [tT,tT,tT,tT,tT,tT,tT,tF]++List.replicate 8 tT++ [.aB [(4,.box (ao.cw m (dU m 18 w dst src base aa af cc) (xT 18 w dst src base aa af cc ld)))],.ret _ _ _ c2,tF,tF,tF,tF,tF,tF,tF,.ret _ _ _ c3,.ret _ _ _ c4,tC (nt (@gF 18 w dst src base aa af cc hm d0 d1 (rfl:true=true))),.cU _ true (dD d0 d1),.cm _ _ _ _ (@cP m dst (gl 7 w (rg (ao.rl m) dst) (IntKind.wrap IntKind.u64 af)) ([.bool false,.bool false,.bool false,.bool false,.bool false,.int .u64 (dU m 18 w dst src base aa af cc),.int .i8 18,.int .i8 w,.int .i8 dst,.int .i8 src,.int .i8 base,.int .i64 aa,.int .i64 af,.int .i8 cc,.int .u64 ld]) d0 d1),tF]) (by kernel_rfl))
theorem xg:l5 19:=by
 intro m w dst src base aa af cc ld d0 d1 s0 s1 b0 b1 hm hw
 have c0:= @aJ 19 w dst src base aa af cc (by decide)
 rw [hm] at c0
 have c1:= @bU 19 w dst src base aa af cc (by decide)
 have c2:= @rG w (rg (ao.rl m) dst) (IntKind.wrap IntKind.u64 af) hw
 have c3:= @b8
 have c4:= @bf 19 w dst src base aa af cc (by decide)
 exact (jK (d:= .aA [(jT (m.at (u64 (m.pc+u64 (dz 19 w dst src base aa af cc)))) ⟨19,w,dst,src,base,aa,af,cc⟩ ld).1.d,.int .i64 0]) ([.ret _ _ _ c0,tF,.ret _ _ _ c1,tT,.get oP 19 (.aq) rfl,tT,.inl,.inl,.aB [(4,.box (ao.cw m (dU m 19 w dst src base aa af cc) (xT 19 w dst src base aa af cc ld)))],.ik oO 19 (some (.int .i8 12)) rfl,.cU _ true (dD d0 d1),.get _ _ _ (@bz m dst ((fT m (dU m 19 w dst src base aa af cc) (xT 19 w dst src base aa af cc ld))) d0 d1),.inl]++List.replicate 8 tF++ [tT,tT,tT,tT,tT,tT,tT,tF]++List.replicate 8 tT++ [.aB [(4,.box (ao.cw m (dU m 19 w dst src base aa af cc) (xT 19 w dst src base aa af cc ld)))],.ret _ _ _ c2,tF,tF,tF,tF,tF,tF,tF,.ret _ _ _ c3,.ret _ _ _ c4,tC (nt (@gF 19 w dst src base aa af cc hm d0 d1 (rfl:true=true))),.cU _ true (dD d0 d1),.cm _ _ _ _ (@cP m dst (gl 12 w (rg (ao.rl m) dst) (IntKind.wrap IntKind.u64 af)) ([.bool false,.bool false,.bool false,.bool false,.bool false,.int .u64 (dU m 19 w dst src base aa af cc),.int .i8 19,.int .i8 w,.int .i8 dst,.int .i8 src,.int .i8 base,.int .i64 aa,.int .i64 af,.int .i8 cc,.int .u64 ld]) d0 d1),tF]) (by kernel_rfl))
theorem xf:l5 20:=by
 intro m w dst src base aa af cc ld d0 d1 s0 s1 b0 b1 hm hw
 have c0:= @aJ 20 w dst src base aa af cc (by decide)
 rw [hm] at c0
 have c1:= @bU 20 w dst src base aa af cc (by decide)
 have c2:= @vJ w (rg (ao.rl m) dst) (ao.q1 m) hw
 have c3:= @b8
 have c4:= @bf 20 w dst src base aa af cc (by decide)
 exact (jK (d:= .aA [(jT (m.at (u64 (m.pc+u64 (dz 20 w dst src base aa af cc)))) ⟨20,w,dst,src,base,aa,af,cc⟩ ld).1.d,.int .i64 0]) ([.ret _ _ _ c0,tF,.ret _ _ _ c1,tT,.get oP 20 (.aq) rfl,tT,.inl,.inl,.aB [(4,.box (ao.cw m (dU m 20 w dst src base aa af cc) (xT 20 w dst src base aa af cc ld)))],.ik oO 20 (some (.int .i8 6)) rfl,.cU _ true (dD d0 d1),.get _ _ _ (@bz m dst ((fT m (dU m 20 w dst src base aa af cc) (xT 20 w dst src base aa af cc ld))) d0 d1),.inl]++List.replicate 8 tT++ [.aB [(4,.box (ao.cw m (dU m 20 w dst src base aa af cc) (xT 20 w dst src base aa af cc ld)))],.ret _ _ _ c2,tF,tF,tF,tF,tF,tF,tF,.ret _ _ _ c3,.ret _ _ _ c4,tC (nt (@gF 20 w dst src base aa af cc hm d0 d1 (rfl:true=true))),.cU _ true (dD d0 d1),.cm _ _ _ _ (@cP m dst (gl 6 w (rg (ao.rl m) dst) (ao.q1 m)) ([.bool false,.bool false,.bool false,.bool false,.bool false,.int .u64 (dU m 20 w dst src base aa af cc),.int .i8 20,.int .i8 w,.int .i8 dst,.int .i8 src,.int .i8 base,.int .i64 aa,.int .i64 af,.int .i8 cc,.int .u64 ld]) d0 d1),tF]) (by kernel_rfl))
theorem xe:l5 21:=by
 intro m w dst src base aa af cc ld d0 d1 s0 s1 b0 b1 hm hw
 have c0:= @aJ 21 w dst src base aa af cc (by decide)
 rw [hm] at c0
 have c1:= @bU 21 w dst src base aa af cc (by decide)
 have c2:= @vI w (rg (ao.rl m) dst) (ao.q1 m) hw
 have c3:= @b8
 have c4:= @bf 21 w dst src base aa af cc (by decide)
 exact (jK (d:= .aA [(jT (m.at (u64 (m.pc+u64 (dz 21 w dst src base aa af cc)))) ⟨21,w,dst,src,base,aa,af,cc⟩ ld).1.d,.int .i64 0]) ([.ret _ _ _ c0,tF,.ret _ _ _ c1,tT,.get oP 21 (.aq) rfl,tT,.inl,.inl,.aB [(4,.box (ao.cw m (dU m 21 w dst src base aa af cc) (xT 21 w dst src base aa af cc ld)))],.ik oO 21 (some (.int .i8 7)) rfl,.cU _ true (dD d0 d1),.get _ _ _ (@bz m dst ((fT m (dU m 21 w dst src base aa af cc) (xT 21 w dst src base aa af cc ld))) d0 d1),.inl]++List.replicate 8 tT++ [.aB [(4,.box (ao.cw m (dU m 21 w dst src base aa af cc) (xT 21 w dst src base aa af cc ld)))],.ret _ _ _ c2,tF,tF,tF,tF,tF,tF,tF,.ret _ _ _ c3,.ret _ _ _ c4,tC (nt (@gF 21 w dst src base aa af cc hm d0 d1 (rfl:true=true))),.cU _ true (dD d0 d1),.cm _ _ _ _ (@cP m dst (gl 7 w (rg (ao.rl m) dst) (ao.q1 m)) ([.bool false,.bool false,.bool false,.bool false,.bool false,.int .u64 (dU m 21 w dst src base aa af cc),.int .i8 21,.int .i8 w,.int .i8 dst,.int .i8 src,.int .i8 base,.int .i64 aa,.int .i64 af,.int .i8 cc,.int .u64 ld]) d0 d1),tF]) (by kernel_rfl))
theorem xd:l5 22:=by
 intro m w dst src base aa af cc ld d0 d1 s0 s1 b0 b1 hm hw
 have c0:= @aJ 22 w dst src base aa af cc (by decide)
 rw [hm] at c0
 have c1:= @bU 22 w dst src base aa af cc (by decide)
 have c2:= @rG w (rg (ao.rl m) dst) (ao.q1 m) hw
 have c3:= @b8
 have c4:= @bf 22 w dst src base aa af cc (by decide)
 exact (jK (d:= .aA [(jT (m.at (u64 (m.pc+u64 (dz 22 w dst src base aa af cc)))) ⟨22,w,dst,src,base,aa,af,cc⟩ ld).1.d,.int .i64 0]) ([.ret _ _ _ c0,tF,.ret _ _ _ c1,tT,.get oP 22 (.aq) rfl,tT,.inl,.inl,.aB [(4,.box (ao.cw m (dU m 22 w dst src base aa af cc) (xT 22 w dst src base aa af cc ld)))],.ik oO 22 (some (.int .i8 12)) rfl,.cU _ true (dD d0 d1),.get _ _ _ (@bz m dst ((fT m (dU m 22 w dst src base aa af cc) (xT 22 w dst src base aa af cc ld))) d0 d1),.inl]++List.replicate 8 tT++ [.aB [(4,.box (ao.cw m (dU m 22 w dst src base aa af cc) (xT 22 w dst src base aa af cc ld)))],.ret _ _ _ c2,tF,tF,tF,tF,tF,tF,tF,.ret _ _ _ c3,.ret _ _ _ c4,tC (nt (@gF 22 w dst src base aa af cc hm d0 d1 (rfl:true=true))),.cU _ true (dD d0 d1),.cm _ _ _ _ (@cP m dst (gl 12 w (rg (ao.rl m) dst) (ao.q1 m)) ([.bool false,.bool false,.bool false,.bool false,.bool false,.int .u64 (dU m 22 w dst src base aa af cc),.int .i8 22,.int .i8 w,.int .i8 dst,.int .i8 src,.int .i8 base,.int .i64 aa,.int .i64 af,.int .i8 cc,.int .u64 ld]) d0 d1),tF]) (by kernel_rfl))
theorem xc:l5 23:=by
 intro m w dst src base aa af cc ld d0 d1 s0 s1 b0 b1 hm hw
 have c0:= @aJ 23 w dst src base aa af cc (by decide)
 rw [hm] at c0
 have c1:= @bU 23 w dst src base aa af cc (by decide)
 have c2:= @Ds w (rg (ao.rl m) dst) (rg (ao.rl m) src) hw
 have c3:= @mC w 0 (rg (ao.rl m) dst) hw
 have c4:= @bf 23 w dst src base aa af cc (by decide)
 exact (jK (d:= .aA [(jT (m.at (u64 (m.pc+u64 (dz 23 w dst src base aa af cc)))) ⟨23,w,dst,src,base,aa,af,cc⟩ ld).1.d,.int .i64 0]) ([.ret _ _ _ c0,tF,.ret _ _ _ c1,tT,.get oP 23 (.aq) rfl,tT,.inl,.inl,.aB [(4,.box (ao.cw m (dU m 23 w dst src base aa af cc) (xT 23 w dst src base aa af cc ld)))],.ik oO 23 (some (.int .i8 8)) rfl,.cU _ true (dD d0 d1),.get _ _ _ (@bz m dst ((fT m (dU m 23 w dst src base aa af cc) (xT 23 w dst src base aa af cc ld))) d0 d1),.inl,tT,tT,tT,tT,tT,tT,tT,tF,tT,tT,tT,tT,tT,tT,tT,tF,tT,tT,tT,tT,tT,tT,tT,tF,.cU _ true (dD s0 s1),.get _ _ _ (@bz m src ((fT m (dU m 23 w dst src base aa af cc) (xT 23 w dst src base aa af cc ld))) s0 s1),.aB [(4,.box (ao.cw m (dU m 23 w dst src base aa af cc) (xT 23 w dst src base aa af cc ld)))],.ret _ _ _ c2,tF,tF,tF,tT,.ret _ _ _ c3,.ret _ _ _ c4,tC (nt (@gF 23 w dst src base aa af cc hm d0 d1 (rfl:true=true))),.cU _ true (dD d0 d1),.cm _ _ _ _ (@cP m dst (gl 8 w (rg (ao.rl m) dst) (rg (ao.rl m) src)) ([.bool true,.bool (zb w 0 (rg (ao.rl m) dst)),.bool (aP (u64 (0 - rg (ao.rl m) dst)) w==0),.bool (gw (u64 (0 - rg (ao.rl m) dst)) w),.bool (y9 w 0 (rg (ao.rl m) dst)),.int .u64 (dU m 23 w dst src base aa af cc),.int .i8 23,.int .i8 w,.int .i8 dst,.int .i8 src,.int .i8 base,.int .i64 aa,.int .i64 af,.int .i8 cc,.int .u64 ld]) d0 d1)]++ [tF]) (by kernel_rfl))
def oM:List D:= [D.fn (Fn.func 117) [.ptr false 4 0] [],D.fn (Fn.func 118) [.ptr false 4 0] [],D.aq,D.aq,D.aq,D.aq,D.aq,D.aq,D.aq,D.aq,D.aq,D.aq,D.aq,D.aq,D.aq,D.aq,D.aq,D.aq,D.aq,D.aq,D.aq,D.aq,D.aq,D.aq,D.fn (Fn.func 119) [.ptr false 4 0] [],D.fn (Fn.func 120) [.ptr false 4 0] [],D.fn (Fn.func 121) [.ptr false 4 0] [],D.fn (Fn.func 122) [.ptr false 4 0] [],D.fn (Fn.func 123) [.ptr false 4 0] [],D.fn (Fn.func 124) [.ptr false 4 0] [],D.fn (Fn.func 125) [.ptr false 4 0] [],D.fn (Fn.func 126) [.ptr false 4 0] []]
def l4 (k0_:Int):Prop:= ∀(m:ao) (w dst src base aa af cc ld:Int) (d0:0≤dst) (d1:dst≤15) (s0:0≤src) (s1:src≤15) (b0:0≤base) (b1:base≤15) (hm:cg k0_ w dst src base aa af cc=true),aE Tryz.prog 83 ([m.d,xD k0_ w dst src base aa af cc,.int .u64 ld]) (.aA [(jT (m.at (u64 (m.pc+u64 (dz k0_ w dst src base aa af cc)))) ⟨k0_,w,dst,src,base,aa,af,cc⟩ ld).1.d,.int .i64 0])
theorem Ba:l4 0:=by
 intro m w dst src base aa af cc ld d0 d1 s0 s1 b0 b1 hm
 have c0:= @aJ 0 w dst src base aa af cc (by decide)
 rw [show (cg 0 w dst src base aa af cc)=true from hm] at c0
 have c1:= @bU 0 w dst src base aa af cc (by decide)
 have c2:= @bH (rg (ao.rl m) src) w
 exact (jK (d:= .aA [(jT (m.at (u64 (m.pc+u64 (dz 0 w dst src base aa af cc)))) ⟨0,w,dst,src,base,aa,af,cc⟩ ld).1.d,.int .i64 0]) [.ret _ _ _ c0,tF,.ret _ _ _ c1,tT,.get oM 0 (D.fn (Fn.func 117) [.ptr false 4 0] []) rfl,tF,.inl,.cU _ true (dD s0 s1),.get _ _ _ (@bz m src ((fT m (dU m 0 w dst src base aa af cc) (xT 0 w dst src base aa af cc ld))) s0 s1),.inl,.ret _ _ _ c2,.cU _ true (dD d0 d1),.cm _ _ _ _ (@cP m dst (aP (rg (ao.rl m) src) w) ((fT m (dU m 0 w dst src base aa af cc) (xT 0 w dst src base aa af cc ld))) d0 d1),tF] (by kernel_rfl))
theorem A9:l4 1:=by
 intro m w dst src base aa af cc ld d0 d1 s0 s1 b0 b1 hm
 have c0:= @aJ 1 w dst src base aa af cc (by decide)
 rw [show (cg 1 w dst src base aa af cc)=true from hm] at c0
 have c1:= @bU 1 w dst src base aa af cc (by decide)
 have c2:= @bH (IntKind.wrap IntKind.u64 af) w
 exact (jK (d:= .aA [(jT (m.at (u64 (m.pc+u64 (dz 1 w dst src base aa af cc)))) ⟨1,w,dst,src,base,aa,af,cc⟩ ld).1.d,.int .i64 0]) [.ret _ _ _ c0,tF,.ret _ _ _ c1,tT,.get oM 1 (D.fn (Fn.func 118) [.ptr false 4 0] []) rfl,tF,.inl,.inl,.ret _ _ _ c2,.cU _ true (dD d0 d1),.cm _ _ _ _ (@cP m dst (aP (IntKind.wrap IntKind.u64 af) w) ((fT m (dU m 1 w dst src base aa af cc) (xT 1 w dst src base aa af cc ld))) d0 d1),tF] (by kernel_rfl))
theorem w9:l4 26:=by
 intro m w dst src base aa af cc ld d0 d1 s0 s1 b0 b1 hm
 have c0:= @aJ 26 w dst src base aa af cc (by decide)
 rw [show (cg 26 w dst src base aa af cc)=true from hm] at c0
 have c1:= @bU 26 w dst src base aa af cc (by decide)
 have c2:= @bH ld w
 exact (jK (d:= .aA [(jT (m.at (u64 (m.pc+u64 (dz 26 w dst src base aa af cc)))) ⟨26,w,dst,src,base,aa,af,cc⟩ ld).1.d,.int .i64 0]) [.ret _ _ _ c0,tF,.ret _ _ _ c1,tT,.get oM 26 (D.fn (Fn.func 121) [.ptr false 4 0] []) rfl,tF,.inl,.inl,.ret _ _ _ c2,.cU _ true (dD d0 d1),.cm _ _ _ _ (@cP m dst (aP ld w) ((fT m (dU m 26 w dst src base aa af cc) (xT 26 w dst src base aa af cc ld))) d0 d1),tF] (by kernel_rfl))
theorem w8:l4 27:=by
 intro m w dst src base aa af cc ld d0 d1 s0 s1 b0 b1 hm
 have c0:= @aJ 27 w dst src base aa af cc (by decide)
 rw [show (cg 27 w dst src base aa af cc)=true from hm] at c0
 have c1:= @bU 27 w dst src base aa af cc (by decide)
 exact (jK (d:= .aA [(jT (m.at (u64 (m.pc+u64 (dz 27 w dst src base aa af cc)))) ⟨27,w,dst,src,base,aa,af,cc⟩ ld).1.d,.int .i64 0]) [.ret _ _ _ c0,tF,.ret _ _ _ c1,tT,.get oM 27 (D.fn (Fn.func 122) [.ptr false 4 0] []) rfl,tF,.inl,tF] (by kernel_rfl))
theorem w7:l4 28:=by
 intro m w dst src base aa af cc ld d0 d1 s0 s1 b0 b1 hm
 have c0:= @aJ 28 w dst src base aa af cc (by decide)
 rw [show (cg 28 w dst src base aa af cc)=true from hm] at c0
 have c1:= @bU 28 w dst src base aa af cc (by decide)
 exact (jK (d:= .aA [(jT (m.at (u64 (m.pc+u64 (dz 28 w dst src base aa af cc)))) ⟨28,w,dst,src,base,aa,af,cc⟩ ld).1.d,.int .i64 0]) [.ret _ _ _ c0,tF,.ret _ _ _ c1,tT,.get oM 28 (D.fn (Fn.func 123) [.ptr false 4 0] []) rfl,tF,.inl,tF] (by kernel_rfl))
theorem w5:l4 30:=by
 intro m w dst src base aa af cc ld d0 d1 s0 s1 b0 b1 hm
 have c0:= @aJ 30 w dst src base aa af cc (by decide)
 rw [show (cg 30 w dst src base aa af cc)=true from hm] at c0
 have c1:= @bU 30 w dst src base aa af cc (by decide)
 exact (jK (d:= .aA [(jT (m.at (u64 (m.pc+u64 (dz 30 w dst src base aa af cc)))) ⟨30,w,dst,src,base,aa,af,cc⟩ ld).1.d,.int .i64 0]) [.ret _ _ _ c0,tF,.ret _ _ _ c1,tT,.get oM 30 (D.fn (Fn.func 125) [.ptr false 4 0] []) rfl,tF,.inl,tF] (by kernel_rfl))
theorem wZ:l4 31:=by
 intro m w dst src base aa af cc ld d0 d1 s0 s1 b0 b1 hm
 have c0:= @aJ 31 w dst src base aa af cc (by decide)
 rw [show (cg 31 w dst src base aa af cc)=true from hm] at c0
 have c1:= @bU 31 w dst src base aa af cc (by decide)
 exact (jK (d:= .aA [(jT (m.at (u64 (m.pc+u64 (dz 31 w dst src base aa af cc)))) ⟨31,w,dst,src,base,aa,af,cc⟩ ld).1.d,.int .i64 0]) [.ret _ _ _ c0,tF,.ret _ _ _ c1,tT,.get oM 31 (D.fn (Fn.func 126) [.ptr false 4 0] []) rfl,tF,.inl,tF] (by kernel_rfl))
end Go.Proofs.YtbfpahigdpigpaaGreat
