import Derived.Test.YtbfpahigdpigpaaGreatC05
import Derived.Test.YtbfpahigdpigpaaGreatC06
import Derived.Test.YtbfpahigdpigpaaGreatC08
import Derived.Test.YtbfpahigdpigpaaGreatC09
import Derived.Test.YtbfpahigdpigpaaGreatC10
open List renaming replicate→Sx
open BitVec renaming ofInt→Sy,toNat→SF
open Int renaming toNat→Sz,not_lt→SD,fdiv→SJ
open Go.Fn renaming func→SB
open And renaming intro→S7
open True renaming intro→Tf
open Go renaming IntKind→T8
/- Contracts and plain laws that a statement's proof leans on (texts merged:MdK1,MdK2,MdK3,MdK4,MdEm,MdW,MdF2,E0,XS1,XS2,XW,MdE,MdP,MdS,Y1a,Y1b,Y1c,Y1d). -/
set_option linter.unusedVariables false
set_option linter.unusedSimpArgs false
set_option maxRecDepth 100000
set_option maxHeartbeats 8000000
namespace Go.Ev
open Go
def jk.may (x:jk):Bool:=Kz x.kind x.op x.width x.size x.eu x.dst x.src x.off x.ai
def Lw (l:List jk):List D:=l.map jk.d
def DF (i kind off:Int):Bool:=(kind==3||kind==4)&&(decide (-1099511627776≤i∧i≤1099511627776)&&decide (-1099511627776≤off∧off≤1099511627776))
def Bh (i kind off:Int):Int:=if DF i kind off=true then i+1+off else 0
def FH (n:Int):Int→List jk→Option (Int×Int)
  |_,[]=>none
  |i,x::r=>if x.may=false then some (i,31) else if DF i x.kind x.off=true∧¬(0≤Bh i x.kind x.off∧Bh i x.kind x.off<n) then some (i,32) else FH n (i+1) r
def vd (l:List jk) (i:Nat):Int:=match l[i]? with|some x=>x.kind|none=>0
def KL (ctx:Int) (l:List jk):Int×Int:=
  if ctx<0∨256<ctx then (0,2) else if l.length<1∨64<l.length then (0,3)
  else match FH l.length 0 l with
    |some r=>r
    |none=>if vd l (l.length - 1)=4∨vd l (l.length - 1)=6 then (0,0) else (l.length - 1,33)
def DP (k:Int):Bool:=k==3||k==4||k==6
def Ji (es:List (Int×D)) (k:Int) (x:jk):List (Int×D):=
  if DF k x.kind x.off=true then dK (if DP x.kind=true then dK es (k+1) (.bool true) else es) (Bh k x.kind x.off) (.bool true)
  else if DP x.kind=true then dK es (k+1) (.bool true) else es
def J1 (l:List jk):Nat→List (Int×D)
  |0=> [(0,.bool true)]
  |k+1=>match l[k]? with
    |some x=>Ji (J1 l k) k x
    |none=>J1 l k
def KN (l:List jk) (k:Nat) (i:Int):Bool:=match l[k]? with
  |some x=>(DP x.kind&&i==(k:Int)+1)||(DF k x.kind x.off&&i==Bh k x.kind x.off)
  |none=>false
def J0 (l:List jk) (i:Int):Nat→Bool
  |0=>i==0
  |k+1=>J0 l i k||KN l k i
def Ls (l:List jk) (i:Int):Bool:=J0 l i l.length
structure LA (l:List jk):Prop where
  pos:1≤l.length
  le:l.length≤64
  may:∀j (h:j<l.length),l[j].may=true
  Lu:∀j (h:j<l.length),DF j l[j].kind l[j].off=true→0≤Bh j l[j].kind l[j].off∧Bh j l[j].kind l[j].off<l.length
  last:vd l (l.length - 1)=4∨vd l (l.length - 1)=6
theorem bz {l:List D} {i:Nat} {x:D} (h:(i:Int)<(l.length:Int)):A2 l i [x] (l.set i x):=by
 refine ⟨?_,by simp;omega⟩
 rw [List.set_eq_take_append_cons_drop,if_pos (by omega)]
 rfl
theorem zA {l:List D} {i:Nat} {x:D} (h:∀c∈l,c.clean=true) (hx:x.clean=true):∀c∈l.set i x,c.clean=true:=by
 intro c hc
 rcases List.mem_or_eq_of_mem_set hc with q|rfl
 ·exact h c q
 ·exact hx
theorem au (b:List Int):∀c∈bD b,c.clean=true:=by
 intro c hc
 obtain ⟨n,_,rfl⟩:=List.mem_map.1 hc
 rfl
theorem cr (b:List Int):(bD b).map D.aR=bD b:=by
 simp only [bD,List.map_map]
 rfl
theorem a9 (b:List Int):(bD b).all isByte=true:=by
 rw [List.all_eq_true]
 intro c hc
 obtain ⟨n,_,rfl⟩:=List.mem_map.1 hc
 rfl
theorem bC:∀b:List Int,aL (bD b)=some (bD b)
 | []=>rfl
 |a::b=>by
  have ih:=bC b
  unfold bD at ih ⊢
  rw [List.map_cons,aL,ih]
  rfl
theorem fS {n m:Nat} {c:D} {b:List D} (h:b.length=n) (hm:m=n):A2 (Sx m c) 0 b b:=by
 subst h
 subst hm
 refine ⟨by simp,by simp⟩
theorem Ft {l:List D} {n:Nat} (h:n=l.length):hB l 0 n l:=by
 subst h
 exact ⟨by simp,by simp⟩
theorem AP {l:List D} {i n:Nat} {l':List D} (h:hB l i n l'):hB l i n l':=h
theorem ei {n:Nat} :Nat.ble n (Sz (n:Int))=true:=by rw [Int.toNat_natCast,Nat.ble_eq];exact Nat.le_refl _
theorem lr {id len:Nat} {y n:Int} (n0:1≤n) (n8:n≤8) (hl:len≤16384) (a1:T8.u64.wrap y≤len) (a2:n≤len - T8.u64.wrap y):
  D.aC [.sub id (0+Sz (T8.u64.wrap y)*1) 1 (Sz (T8.i64.wrap (T8.i64.wrap (T8.u64.wrap y)+n)) - Sz (T8.u64.wrap y)) (some (Sz (T8.i64.wrap (T8.i64.wrap (T8.u64.wrap y)+n)) - Sz (T8.u64.wrap y))),.bool true]=D.aC [.sub id (Sz (T8.u64.wrap y)) 1 n.toNat (some n.toNat),.bool true]:=by
 have h0:0≤T8.u64.wrap y:=by rw [dR];omega
 have e1:0+Sz (T8.u64.wrap y)*1=Sz (T8.u64.wrap y):=by omega
 have e2:Sz (T8.i64.wrap (T8.i64.wrap (T8.u64.wrap y)+n)) - Sz (T8.u64.wrap y)=n.toNat:=by
  generalize T8.u64.wrap y=z at*
  rw [cD,cD];omega
 rw [e1,e2]
def KT (v b:Int):Int:=T8.u64.wrap ((Sy 64 (T8.u64.wrap (v*256))|||Sy 64 (T8.u64.wrap b)).toNat:Int)
def sf:List Int→Int
  | []=>0
  |b::t=>KT (sf t) b
def Ja (cs:List D) (k:Nat) (w:Int):Nat→List D
  |0=>cs
  |n+1=>(Ja cs k w n).set (k+n*1) (.int .u8 (T8.u8.wrap (w.fdiv (256^n))))
theorem eZ:(∀ {α:Type} {a b:List α},(a++b).length=a.length+b.length)∧(∀ {α:Type} {x:α} {a:List α},(x::a).length=a.length+1)∧(∀ {α:Type},([]:List α).length=0)∧(∀ {α:Type} {a:List α} {i:Nat} {x:α},(a.set i x).length=a.length)∧(∀ {α:Type} {n:Nat} {x:α},(Sx n x).length=n)∧(∀n:Int,T8.i8.wrap n=(n+128)%256 - 128)∧(∀n:Int,T8.u8.wrap n=n%256)∧(∀n:Int,T8.i64.wrap n=(n+9223372036854775808)%18446744073709551616 - 9223372036854775808)∧(∀n:Int,T8.u64.wrap n=n%18446744073709551616)∧(∀ {p:Prop} [Decidable p],(decide p=true)=p)∧(∀ {p:Prop} [Decidable p],(decide p=false)↔ ¬p)∧(∀ {α:Type} [BEq α] [LawfulBEq α] {a b:α},(a==b)=true↔a=b)∧(∀ {α:Type} [BEq α] [LawfulBEq α] {a b:α},(a !=b)=true↔a≠b)∧(∀ {α:Type} [BEq α] [LawfulBEq α] {a b:α},(a==b)=false↔a≠b)∧(∀ {α:Type} [BEq α] [LawfulBEq α] {a b:α},(a !=b)=false↔a=b)∧(∀b:Bool,((!b)=true)=(b=false))∧(∀b:Bool,((!b)=false)=(b=true))∧(∀a b:Bool,((a&&b)=true)=(a=true∧b=true))∧(∀a b:Bool,((a||b)=true)=(a=true∨b=true))∧(∀p:Prop,(p∧True)=p)∧(∀p:Prop,(True∧p)=p)∧(∀ {α:Type} (a:α),(a=a)=True):=
 ⟨List.length_append,List.length_cons,List.length_nil,List.length_set,List.length_replicate,kK,dD,cD,dR,@decide_eq_true_eq,@decide_eq_false_iff_not,@beq_iff_eq,@bne_iff_ne,@beq_eq_false_iff_ne,@bne_eq_false_iff_eq,by intro b;cases b<;>simp,by intro b;cases b<;>simp,by intro a b;simp,by intro a b;simp,by intro p;simp,by intro p;simp,by intro α a;simp⟩
def HZ (op dst src base:Int):Int:=
  if op=0 then j3 src
  else if op=1∨op=28∨op=29 then 0
  else if 20≤op∧op≤22 then Cg (j3 dst) (j3 1)
  else if op=24 then Cg (Cg (j3 dst) (j3 0)) (j3 2)
  else if op=26 then j3 base
  else if op=27 then Cg (j3 base) (j3 src)
  else if op=30 then 17
  else if op=31 then 1477
  else if aA op=1∨aA op=2∨aA op=6 then Cg (j3 dst) (j3 src)
  else j3 dst
def pq (op dst:Int):Int:=
  if op=7∨op=8∨op=14∨op=15∨op=27∨op=28∨op=29 then 0
  else if op=24 then 5
  else if op=30 then 16
  else if op=31 then 2051
  else j3 dst
def J9 (op w dst src base aa ai cc:Int):Int:=if ct op w dst src base aa ai cc then HZ op dst src base else 0
def jJ (op w dst src base aa ai cc:Int):Int:=if ct op w dst src base aa ai cc then pq op dst else 0
def Hv (w a b:Int):Bool:=decide (aV (u64 (a+b)) w<aV a w)
def Hu (w a b:Int):Bool:=gW (vO (vV a (u64 (a+b))) (vV b (u64 (a+b)))) w
def Bk (w a b:Int):Bool:=decide (aV a w<aV b w)
def Bi (w a b:Int):Bool:=gW (vO (vV a b) (vV a (u64 (a - b)))) w
theorem uk (v:Int):T8.u64.wrap (T8.i64.wrap (T8.i8.wrap v))=T8.u64.wrap (T8.i8.wrap v):=by rw [dR,dR,cD,kK];omega
theorem uj (v:Int):T8.u64.wrap (T8.i64.wrap (T8.i16.wrap v))=T8.u64.wrap (T8.i16.wrap v):=by rw [dR,dR,cD,Jh];omega
theorem ui (v:Int):T8.u64.wrap (T8.i64.wrap (T8.i32.wrap v))=T8.u64.wrap (T8.i32.wrap v):=by rw [dR,dR,cD,we];omega
def dC (cc:Int) (c z s o:Bool):Bool:=
  if cc=2 then c else if cc=3 then !c else if cc=4 then z else if cc=5 then !z else if cc=6 then (c||z) else if cc=7 then !(c||z)
  else if cc=12 then (s !=o) else if cc=13 then !(s !=o) else if cc=14 then (z||(s !=o)) else !(z||(s !=o))
def Gb (op:Int):Bool:= !(decide (op=7∨op=8∨op=14∨op=15∨op=27∨op=28∨op=29))
theorem Gi {d:Int} (h0:0≤d) (h1:d≤15):j3 d≠0:=by
 obtain ⟨n,rfl⟩:=gY h0 h1
 clear h0 h1
 revert n
 decide+kernel
theorem hH {op w dst src base aa ai cc:Int} (hm:ct op w dst src base aa ai cc=true) (d0:0≤dst) (d1:dst≤15) (NH:Gb op=true):(jJ op w dst src base aa ai cc==0)=false:=by
 rw [beq_eq_false_iff_ne]
 unfold jJ
 rw [if_pos hm]
 unfold pq
 simp only [Gb,Bool.not_eq_true',decide_eq_false_iff_not] at NH
 rw [if_neg NH]
 split
 ·decide
 ·split
  ·decide
  ·split
   ·decide
   ·exact Gi d0 d1
theorem F9 {op w dst src base aa ai cc:Int} (NH:Gb op=false):(jJ op w dst src base aa ai cc==0)=true:=by
 rw [beq_iff_eq]
 unfold jJ pq
 simp only [Gb,Bool.not_eq_false',decide_eq_true_eq] at NH
 rw [if_pos NH]
 split<;>rfl
end Go.Ev
namespace Go.Proofs.YtbfpahigdpigpaaGreat
open Go Go.Ev
theorem bP (v w:Int):aF Tryz.prog 147 ([.int .u64 v,.int .i8 w]) (.int .u64 (aV v w)):=by
 by_cases h0:w=8
 ·subst h0
  exact (aF.ab (d:= .int .u64 (T8.wrap T8.u64 (T8.wrap T8.u8 v))) mixed Tryz.func147 (by kernel_rfl) [tT] (by kernel_rfl)).to (by simp [wk,aV,dD,Aa,z7,dR,];try omega)
 ·skip
  by_cases h1:w=16
  ·subst h1
   exact (aF.ab (d:= .int .u64 (T8.wrap T8.u64 (T8.wrap T8.u16 v))) mixed Tryz.func147 (by kernel_rfl) [tC (aw h0),tT] (by kernel_rfl)).to (by simp [wk,aV,dD,Aa,z7,dR,h0];try omega)
  ·skip
   by_cases h2:w=32
   ·subst h2
    exact (aF.ab (d:= .int .u64 (T8.wrap T8.u64 (T8.wrap T8.u32 v))) mixed Tryz.func147 (by kernel_rfl) [tC (aw h0),tC (aw h1),tT] (by kernel_rfl)).to (by simp [wk,aV,dD,Aa,z7,dR,h0,h1];try omega)
   ·skip
    exact (aF.ab (d:= .int .u64 v) mixed Tryz.func147 (by kernel_rfl) [tC (aw h0),tC (aw h1),tC (aw h2)] (by kernel_rfl)).to (by simp [wk,aV,dD,Aa,z7,dR,h0,h1,h2];try omega)
theorem Af (v w:Int):aF Tryz.prog 186 ([.int .u64 v,.int .i8 w]) (.int .u64 (mn v w)):=by
 by_cases h0:w=8
 ·subst h0
  exact (aF.ab (d:= .int .u64 (T8.wrap T8.u64 (T8.i64.wrap (T8.wrap T8.i8 v)))) mixed Tryz.func186 (by kernel_rfl) [tT] (by kernel_rfl)).to (by simp [wk,mn,u64,uk,uj,ui,])
 ·skip
  by_cases h1:w=16
  ·subst h1
   exact (aF.ab (d:= .int .u64 (T8.wrap T8.u64 (T8.i64.wrap (T8.wrap T8.i16 v)))) mixed Tryz.func186 (by kernel_rfl) [tC (aw h0),tT] (by kernel_rfl)).to (by simp [wk,mn,u64,uk,uj,ui,h0])
  ·skip
   by_cases h2:w=32
   ·subst h2
    exact (aF.ab (d:= .int .u64 (T8.wrap T8.u64 (T8.i64.wrap (T8.wrap T8.i32 v)))) mixed Tryz.func186 (by kernel_rfl) [tC (aw h0),tC (aw h1),tT] (by kernel_rfl)).to (by simp [wk,mn,u64,uk,uj,ui,h0,h1])
   ·skip
    exact (aF.ab (d:= .int .u64 v) mixed Tryz.func186 (by kernel_rfl) [tC (aw h0),tC (aw h1),tC (aw h2)] (by kernel_rfl)).to (by simp [wk,mn,u64,uk,uj,ui,h0,h1,h2])
theorem gr (w:Int):aF Tryz.prog 164 ([.int .i8 w]) (.bool (bj w)):=by
 by_cases h0:w=32
 ·subst h0
  exact (aF.ab (d:= .bool true) mixed Tryz.func164 (by kernel_rfl) [tF,tF,tT] (by kernel_rfl)).to (by simp only [wk,D.bool.injEq,bj];first|rfl|(rw [Bool.eq_iff_iff];simp [];try omega))
 ·skip
  exact (aF.ab (d:= .bool (w==(64:Int))) mixed Tryz.func164 (by kernel_rfl) [tC (eF (aw h0)),tC (eF (aw h0)),tC (aw h0)] (by kernel_rfl)).to (by simp only [wk,D.bool.injEq,bj];first|rfl|(rw [Bool.eq_iff_iff];simp [h0];try omega))
def mz (Me:Int):Prop:= ∀(w a b:Int) (hw:bj w=true),aF Tryz.prog 153 ([.int .i8 Me,.int .i8 w,.int .u64 a,.int .u64 b]) (.aC [.int .u64 (gK Me w a b),.int .i64 0])
theorem xB:mz 0:=by
  intro w a b hw
  have c0:= @gr (w)
  rw [show (bj w)=true from hw] at c0
  have c1:= @bP (a) (w)
  have c2:= @bP (b) (w)
  have c3:= @bP (T8.wrap T8.u64 (aV a w+aV b w)) (w)
  exact (aF.ab (d:= .aC [.int .u64 (aV (T8.wrap T8.u64 (aV a w+aV b w)) w),.int .i64 0]) mixed Tryz.func153 (by kernel_rfl) [tT,tT,tF,tT,tT,.ret _ _ _ c0,tT,tF,tF,.ret _ _ _ c1,.ret _ _ _ c2,.inl,tT,.get ([D.fn (SB 173) [] [],D.fn (SB 174) [] [],D.fn (SB 175) [] [],D.fn (SB 176) [] [],D.fn (SB 177) [] [],D.fn (SB 178) [] [],D.fn (SB 179) [] [],D.fn (SB 180) [] [],D.fn (SB 181) [] [],D.fn (SB 182) [] [],D.fn (SB 183) [] [],D.fn (SB 184) [] [],D.fn (SB 185) [] []]) 0 (D.fn (SB 173) [] []) rfl,.inl,.ret _ _ _ c3] (by kernel_rfl)).to (by first|((simp only [wk,ax,and_true];repeat' (first|rfl|exact Tf|apply S7));done)|(simp [wk,ax,gK,sg,];done)|(simp [wk,ax,gK,sg,u64, *];done))
theorem nI:mz 1:=by
 intro w a b hw
 have c0:= @gr (w)
 rw [show (bj w)=true from hw] at c0
 have c1:= @bP (a) (w)
 have c2:= @bP (b) (w)
 have c3:= @bP (T8.wrap T8.u64 (aV a w - aV b w)) (w)
 exact (aF.ab (d:= .aC [.int .u64 (aV (T8.wrap T8.u64 (aV a w - aV b w)) w),.int .i64 0]) mixed Tryz.func153 (by kernel_rfl) [tT,tT,tF,tT,tT,.ret _ _ _ c0,tT,tF,tF,.ret _ _ _ c1,.ret _ _ _ c2,.inl,tT,.get ([D.fn (SB 173) [] [],D.fn (SB 174) [] [],D.fn (SB 175) [] [],D.fn (SB 176) [] [],D.fn (SB 177) [] [],D.fn (SB 178) [] [],D.fn (SB 179) [] [],D.fn (SB 180) [] [],D.fn (SB 181) [] [],D.fn (SB 182) [] [],D.fn (SB 183) [] [],D.fn (SB 184) [] [],D.fn (SB 185) [] []]) 1 (D.fn (SB 174) [] []) rfl,.inl,.ret _ _ _ c3] (by kernel_rfl)).to (by first|((simp only [wk,ax,and_true];repeat' (first|rfl|exact Tf|apply S7));done)|(simp [wk,ax,gK,sg,];done)|(simp [wk,ax,gK,sg,u64, *];done))
theorem FN:mz 2:=by
 intro w a b hw
 have c0:= @gr (w)
 rw [show (bj w)=true from hw] at c0
 have c1:= @bP (a) (w)
 have c2:= @bP (b) (w)
 have c3:= @bP (T8.wrap T8.u64 (aV a w*aV b w)) (w)
 exact (aF.ab (d:= .aC [.int .u64 (aV (T8.wrap T8.u64 (aV a w*aV b w)) w),.int .i64 0]) mixed Tryz.func153 (by kernel_rfl) [tT,tT,tF,tT,tT,.ret _ _ _ c0,tT,tF,tF,.ret _ _ _ c1,.ret _ _ _ c2,.inl,tT,.get ([D.fn (SB 173) [] [],D.fn (SB 174) [] [],D.fn (SB 175) [] [],D.fn (SB 176) [] [],D.fn (SB 177) [] [],D.fn (SB 178) [] [],D.fn (SB 179) [] [],D.fn (SB 180) [] [],D.fn (SB 181) [] [],D.fn (SB 182) [] [],D.fn (SB 183) [] [],D.fn (SB 184) [] [],D.fn (SB 185) [] []]) 2 (D.fn (SB 175) [] []) rfl,.inl,.ret _ _ _ c3] (by kernel_rfl)).to (by first|((simp only [wk,ax,and_true];repeat' (first|rfl|exact Tf|apply S7));done)|(simp [wk,ax,gK,sg,];done)|(simp [wk,ax,gK,sg,u64, *];done))
theorem xA:mz 4:=by
 intro w a b hw
 have c0:= @gr (w)
 rw [show (bj w)=true from hw] at c0
 have c1:= @bP (a) (w)
 have c2:= @bP (b) (w)
 have c3:= @bP (T8.wrap T8.u64 (↑(SF (Sy (64:Nat) (aV a w)|||Sy (64:Nat) (aV b w))):Int)) (w)
 exact (aF.ab (d:= .aC [.int .u64 (aV (T8.wrap T8.u64 (↑(SF (Sy (64:Nat) (aV a w)|||Sy (64:Nat) (aV b w))):Int)) w),.int .i64 0]) mixed Tryz.func153 (by kernel_rfl) [tT,tT,tF,tT,tT,.ret _ _ _ c0,tT,tF,tF,.ret _ _ _ c1,.ret _ _ _ c2,.inl,tT,.get ([D.fn (SB 173) [] [],D.fn (SB 174) [] [],D.fn (SB 175) [] [],D.fn (SB 176) [] [],D.fn (SB 177) [] [],D.fn (SB 178) [] [],D.fn (SB 179) [] [],D.fn (SB 180) [] [],D.fn (SB 181) [] [],D.fn (SB 182) [] [],D.fn (SB 183) [] [],D.fn (SB 184) [] [],D.fn (SB 185) [] []]) 4 (D.fn (SB 177) [] []) rfl,.inl,.ret _ _ _ c3] (by kernel_rfl)).to (by first|((simp only [wk,ax,and_true];repeat' (first|rfl|exact Tf|apply S7));done)|(simp [wk,ax,gK,sg,];done)|(simp [wk,ax,gK,sg,u64, *];done))
theorem nH:mz 5:=by
 intro w a b hw
 have c0:= @gr (w)
 rw [show (bj w)=true from hw] at c0
 have c1:= @bP (a) (w)
 have c2:= @bP (b) (w)
 have c3:= @bP (T8.wrap T8.u64 (↑(SF (Sy (64:Nat) (aV a w)&&&Sy (64:Nat) (aV b w))):Int)) (w)
 exact (aF.ab (d:= .aC [.int .u64 (aV (T8.wrap T8.u64 (↑(SF (Sy (64:Nat) (aV a w)&&&Sy (64:Nat) (aV b w))):Int)) w),.int .i64 0]) mixed Tryz.func153 (by kernel_rfl) [tT,tT,tF,tT,tT,.ret _ _ _ c0,tT,tF,tF,.ret _ _ _ c1,.ret _ _ _ c2,.inl,tT,.get ([D.fn (SB 173) [] [],D.fn (SB 174) [] [],D.fn (SB 175) [] [],D.fn (SB 176) [] [],D.fn (SB 177) [] [],D.fn (SB 178) [] [],D.fn (SB 179) [] [],D.fn (SB 180) [] [],D.fn (SB 181) [] [],D.fn (SB 182) [] [],D.fn (SB 183) [] [],D.fn (SB 184) [] [],D.fn (SB 185) [] []]) 5 (D.fn (SB 178) [] []) rfl,.inl,.ret _ _ _ c3] (by kernel_rfl)).to (by first|((simp only [wk,ax,and_true];repeat' (first|rfl|exact Tf|apply S7));done)|(simp [wk,ax,gK,sg,];done)|(simp [wk,ax,gK,sg,u64, *];done))
theorem xz:mz 6:=by
 intro w a b hw
 have c0:= @gr (w)
 rw [show (bj w)=true from hw] at c0
 have c1:= @bP (a) (w)
 have c2:= @bP (b) (w)
 have c3:= @bP (T8.wrap T8.u64 (aV a w*(2:Int)^min (Sz (T8.wrap T8.u64 (↑(SF (Sy (64:Nat) (aV b w)&&&Sy (64:Nat) (T8.wrap T8.u64 (T8.wrap T8.i8 (w - (1:Int)))))):Int))) (64:Nat))) (w)
 exact (aF.ab (d:= .aC [.int .u64 (aV (T8.wrap T8.u64 (aV a w*(2:Int)^min (Sz (T8.wrap T8.u64 (↑(SF (Sy (64:Nat) (aV b w)&&&Sy (64:Nat) (T8.wrap T8.u64 (T8.wrap T8.i8 (w - (1:Int)))))):Int))) (64:Nat))) w),.int .i64 0]) mixed Tryz.func153 (by kernel_rfl) ([tT,tT,tF,tT,tT,.ret _ _ _ c0,tT,tF,tF,.ret _ _ _ c1,.ret _ _ _ c2,.inl,tT,.get ([D.fn (SB 173) [] [],D.fn (SB 174) [] [],D.fn (SB 175) [] [],D.fn (SB 176) [] [],D.fn (SB 177) [] [],D.fn (SB 178) [] [],D.fn (SB 179) [] [],D.fn (SB 180) [] [],D.fn (SB 181) [] [],D.fn (SB 182) [] [],D.fn (SB 183) [] [],D.fn (SB 184) [] [],D.fn (SB 185) [] []]) 6 (D.fn (SB 179) [] []) rfl,.inl,tT]++ [.ret _ _ _ c3]) (by kernel_rfl)).to (by first|((simp only [wk,ax,and_true];repeat' (first|rfl|exact Tf|apply S7));done)|(simp [wk,ax,gK,sg,];done)|(simp [wk,ax,gK,sg,u64, *];done))
theorem xy:mz 7:=by
 intro w a b hw
 have c0:= @gr (w)
 rw [show (bj w)=true from hw] at c0
 have c1:= @bP (a) (w)
 have c2:= @bP (b) (w)
 have c3:= @bP (SJ (aV a w) ((2:Int)^min (Sz (T8.wrap T8.u64 (↑(SF (Sy (64:Nat) (aV b w)&&&Sy (64:Nat) (T8.wrap T8.u64 (T8.wrap T8.i8 (w - (1:Int)))))):Int))) (64:Nat))) (w)
 exact (aF.ab (d:= .aC [.int .u64 (aV (SJ (aV a w) ((2:Int)^min (Sz (T8.wrap T8.u64 (↑(SF (Sy (64:Nat) (aV b w)&&&Sy (64:Nat) (T8.wrap T8.u64 (T8.wrap T8.i8 (w - (1:Int)))))):Int))) (64:Nat))) w),.int .i64 0]) mixed Tryz.func153 (by kernel_rfl) ([tT,tT,tF,tT,tT,.ret _ _ _ c0,tT,tF,tF,.ret _ _ _ c1,.ret _ _ _ c2,.inl,tT,.get ([D.fn (SB 173) [] [],D.fn (SB 174) [] [],D.fn (SB 175) [] [],D.fn (SB 176) [] [],D.fn (SB 177) [] [],D.fn (SB 178) [] [],D.fn (SB 179) [] [],D.fn (SB 180) [] [],D.fn (SB 181) [] [],D.fn (SB 182) [] [],D.fn (SB 183) [] [],D.fn (SB 184) [] [],D.fn (SB 185) [] []]) 7 (D.fn (SB 180) [] []) rfl,.inl,tT]++ [.ret _ _ _ c3]) (by kernel_rfl)).to (by first|((simp only [wk,ax,and_true];repeat' (first|rfl|exact Tf|apply S7));done)|(simp [wk,ax,gK,sg,];done)|(simp [wk,ax,gK,sg,u64, *];done))
theorem FM:mz 8:=by
 intro w a b hw
 have c0:= @gr (w)
 rw [show (bj w)=true from hw] at c0
 have c1:= @bP (a) (w)
 have c2:= @bP (b) (w)
 have c3:= @bP (T8.wrap T8.u64 ((0:Int) - aV a w)) (w)
 exact (aF.ab (d:= .aC [.int .u64 (aV (T8.wrap T8.u64 ((0:Int) - aV a w)) w),.int .i64 0]) mixed Tryz.func153 (by kernel_rfl) [tT,tT,tF,tT,tT,.ret _ _ _ c0,tT,tF,tF,.ret _ _ _ c1,.ret _ _ _ c2,.inl,tT,.get ([D.fn (SB 173) [] [],D.fn (SB 174) [] [],D.fn (SB 175) [] [],D.fn (SB 176) [] [],D.fn (SB 177) [] [],D.fn (SB 178) [] [],D.fn (SB 179) [] [],D.fn (SB 180) [] [],D.fn (SB 181) [] [],D.fn (SB 182) [] [],D.fn (SB 183) [] [],D.fn (SB 184) [] [],D.fn (SB 185) [] []]) 8 (D.fn (SB 181) [] []) rfl,.inl,.ret _ _ _ c3] (by kernel_rfl)).to (by first|((simp only [wk,ax,and_true];repeat' (first|rfl|exact Tf|apply S7));done)|(simp [wk,ax,gK,sg,];done)|(simp [wk,ax,gK,sg,u64, *];done))
theorem tE:mz 10:=by
 intro w a b hw
 have c0:= @gr (w)
 rw [show (bj w)=true from hw] at c0
 have c1:= @bP (a) (w)
 have c2:= @bP (b) (w)
 have c3:= @bP (T8.wrap T8.u64 (↑(SF (Sy (64:Nat) (aV a w)^^^Sy (64:Nat) (aV b w))):Int)) (w)
 exact (aF.ab (d:= .aC [.int .u64 (aV (T8.wrap T8.u64 (↑(SF (Sy (64:Nat) (aV a w)^^^Sy (64:Nat) (aV b w))):Int)) w),.int .i64 0]) mixed Tryz.func153 (by kernel_rfl) [tT,tT,tF,tT,tT,.ret _ _ _ c0,tT,tF,tF,.ret _ _ _ c1,.ret _ _ _ c2,.inl,tT,.get ([D.fn (SB 173) [] [],D.fn (SB 174) [] [],D.fn (SB 175) [] [],D.fn (SB 176) [] [],D.fn (SB 177) [] [],D.fn (SB 178) [] [],D.fn (SB 179) [] [],D.fn (SB 180) [] [],D.fn (SB 181) [] [],D.fn (SB 182) [] [],D.fn (SB 183) [] [],D.fn (SB 184) [] [],D.fn (SB 185) [] []]) 10 (D.fn (SB 183) [] []) rfl,.inl,.ret _ _ _ c3] (by kernel_rfl)).to (by first|((simp only [wk,ax,and_true];repeat' (first|rfl|exact Tf|apply S7));done)|(simp [wk,ax,gK,sg,];done)|(simp [wk,ax,gK,sg,u64, *];done))
theorem tD:mz 12:=by
 intro w a b hw
 have c0:= @gr (w)
 rw [show (bj w)=true from hw] at c0
 have c1:= @bP (a) (w)
 have c2:= @bP (b) (w)
 have c3:= @Af (aV a w) (w)
 have c4:= @bP (T8.wrap T8.u64 (SJ (T8.i64.wrap (mn (aV a w) w)) ((2:Int)^min (Sz (T8.wrap T8.u64 (↑(SF (Sy (64:Nat) (aV b w)&&&Sy (64:Nat) (T8.wrap T8.u64 (T8.wrap T8.i8 (w - (1:Int)))))):Int))) (64:Nat)))) (w)
 exact (aF.ab (d:= .aC [.int .u64 (aV (T8.wrap T8.u64 (SJ (T8.i64.wrap (mn (aV a w) w)) ((2:Int)^min (Sz (T8.wrap T8.u64 (↑(SF (Sy (64:Nat) (aV b w)&&&Sy (64:Nat) (T8.wrap T8.u64 (T8.wrap T8.i8 (w - (1:Int)))))):Int))) (64:Nat)))) w),.int .i64 0]) mixed Tryz.func153 (by kernel_rfl) ([tT,tT,tF,tT,tT,.ret _ _ _ c0,tT,tF,tF,.ret _ _ _ c1,.ret _ _ _ c2,.inl,tT,.get ([D.fn (SB 173) [] [],D.fn (SB 174) [] [],D.fn (SB 175) [] [],D.fn (SB 176) [] [],D.fn (SB 177) [] [],D.fn (SB 178) [] [],D.fn (SB 179) [] [],D.fn (SB 180) [] [],D.fn (SB 181) [] [],D.fn (SB 182) [] [],D.fn (SB 183) [] [],D.fn (SB 184) [] [],D.fn (SB 185) [] []]) 12 (D.fn (SB 185) [] []) rfl,.inl,.ret _ _ _ c3]++ [tT,.ret _ _ _ c4]) (by kernel_rfl)).to (by first|((simp only [wk,ax,and_true];repeat' (first|rfl|exact Tf|apply S7));done)|(simp [wk,ax,gK,sg,];done)|(simp [wk,ax,gK,sg,u64, *];done))
theorem ck:aF Tryz.prog 149 ([]) (fD false false false false false):=by
 exact (aF.ab (d:= .agg [.bool false,.bool false,.bool false,.bool false,.bool false]) mixed Tryz.func149 (by kernel_rfl) [] (by kernel_rfl)).to (by first|((simp only [wk,ax,and_true];repeat' (first|rfl|exact Tf|apply S7));done)|(simp [wk,ax,];done))
theorem lX (v w:Int):aF Tryz.prog 166 ([.int .u64 v,.int .i8 w]) (.bool (gW v w)):=by
 have c0:= @Af (v) (w)
 exact (aF.ab (d:= .bool (decide (T8.i64.wrap (mn v w)<(0:Int)))) mixed Tryz.func166 (by kernel_rfl) [.ret _ _ _ c0] (by kernel_rfl)).to (by first|((simp only [wk,ax,and_true];repeat' (first|rfl|exact Tf|apply S7));done)|(simp [wk,ax,];done))
theorem jC (w v:Int) (hw:bj w=true):aF Tryz.prog 156 ([.int .i8 w,.int .u64 v]) (.aC [fD true false (aV v w==0) (gW v w) false,.int .i64 0]):=by
 by_cases h0:w=32
 ·subst h0
  have c1:= @bP (v) ((32:Int))
  have c2:= @lX (v) ((32:Int))
  exact (aF.ab (d:= .aC [.agg [.bool true,.bool false,.bool (aV v (32:Int)==(0:Int)),.bool (gW v (32:Int)),.bool false],.int .i64 0]) mixed Tryz.func156 (by kernel_rfl) [tF,tF,tF,tF,.ret _ _ _ c1,.ret _ _ _ c2] (by kernel_rfl)).to (by first|((simp only [wk,ax,and_true];repeat' (first|rfl|exact Tf|apply S7));done)|(exfalso;simp [bj] at*;done)|(exfalso;simp [bj] at*;omega))
 ·skip
  by_cases h3:w=64
  ·subst h3
   have c4:= @bP (v) ((64:Int))
   have c5:= @lX (v) ((64:Int))
   exact (aF.ab (d:= .aC [.agg [.bool true,.bool false,.bool (aV v (64:Int)==(0:Int)),.bool (gW v (64:Int)),.bool false],.int .i64 0]) mixed Tryz.func156 (by kernel_rfl) [tC (eT (nt (aw h0))),tC (eT (nt (aw h0))),tC (nt (aw h0)),tF,.ret _ _ _ c4,.ret _ _ _ c5] (by kernel_rfl)).to (by first|((simp only [wk,ax,and_true];repeat' (first|rfl|exact Tf|apply S7));done)|(exfalso;simp [bj] at*;done)|(exfalso;simp [bj] at*;omega))
  ·skip
   exact (aF.ab (d:= .aC [.agg [.bool false,.bool false,.bool false,.bool false,.bool false],.int .i64 2]) mixed Tryz.func156 (by kernel_rfl) [tC (eT (nt (aw h0))),tC (eT (nt (aw h0))),tC (nt (aw h0)),tC (nt (aw h3))] (by kernel_rfl)).to (by first|((simp only [wk,ax,and_true];repeat' (first|rfl|exact Tf|apply S7));done)|(exfalso;simp [bj] at*;done)|(exfalso;simp [bj] at*;omega))
theorem AW (w a b:Int) (hw:bj w=true):aF Tryz.prog 154 ([.int .i8 w,.int .u64 a,.int .u64 b]) (.aC [fD true (Hv w a b) (aV (u64 (a+b)) w==0) (gW (u64 (a+b)) w) (Hu w a b),.int .i64 0]):=by
 have c0:= @jC (w) (T8.wrap T8.u64 (a+b)) hw
 have c1:= @bP (T8.wrap T8.u64 (a+b)) (w)
 have c2:= @bP (a) (w)
 have c3:= @lX (T8.wrap T8.u64 (↑(SF (Sy (64:Nat) (T8.wrap T8.u64 (↑(SF (Sy (64:Nat) a^^^Sy (64:Nat) (T8.wrap T8.u64 (a+b)))):Int))&&&Sy (64:Nat) (T8.wrap T8.u64 (↑(SF (Sy (64:Nat) b^^^Sy (64:Nat) (T8.wrap T8.u64 (a+b)))):Int)))):Int)) (w)
 exact (aF.ab (d:= .aC [.agg [.bool true,.bool (decide (aV (T8.wrap T8.u64 (a+b)) w<aV a w)),.bool (aV (T8.wrap T8.u64 (a+b)) w==(0:Int)),.bool (gW (T8.wrap T8.u64 (a+b)) w),.bool (gW (T8.wrap T8.u64 (↑(SF (Sy (64:Nat) (T8.wrap T8.u64 (↑(SF (Sy (64:Nat) a^^^Sy (64:Nat) (T8.wrap T8.u64 (a+b)))):Int))&&&Sy (64:Nat) (T8.wrap T8.u64 (↑(SF (Sy (64:Nat) b^^^Sy (64:Nat) (T8.wrap T8.u64 (a+b)))):Int)))):Int)) w)],.int .i64 0]) mixed Tryz.func154 (by kernel_rfl) [.ret _ _ _ c0,tF,.ret _ _ _ c1,.ret _ _ _ c2,.ret _ _ _ c3] (by kernel_rfl)).to (by first|((simp only [wk,ax,and_true];repeat' (first|rfl|exact Tf|apply S7));done)|(simp [wk,ax,];done))
theorem nz (w a b:Int) (hw:bj w=true):aF Tryz.prog 155 ([.int .i8 w,.int .u64 a,.int .u64 b]) (.aC [fD true (Bk w a b) (aV (u64 (a - b)) w==0) (gW (u64 (a - b)) w) (Bi w a b),.int .i64 0]):=by
 have c0:= @jC (w) (T8.wrap T8.u64 (a - b)) hw
 have c1:= @bP (a) (w)
 have c2:= @bP (b) (w)
 have c3:= @lX (T8.wrap T8.u64 (↑(SF (Sy (64:Nat) (T8.wrap T8.u64 (↑(SF (Sy (64:Nat) a^^^Sy (64:Nat) b)):Int))&&&Sy (64:Nat) (T8.wrap T8.u64 (↑(SF (Sy (64:Nat) a^^^Sy (64:Nat) (T8.wrap T8.u64 (a - b)))):Int)))):Int)) (w)
 exact (aF.ab (d:= .aC [.agg [.bool true,.bool (decide (aV a w<aV b w)),.bool (aV (T8.wrap T8.u64 (a - b)) w==(0:Int)),.bool (gW (T8.wrap T8.u64 (a - b)) w),.bool (gW (T8.wrap T8.u64 (↑(SF (Sy (64:Nat) (T8.wrap T8.u64 (↑(SF (Sy (64:Nat) a^^^Sy (64:Nat) b)):Int))&&&Sy (64:Nat) (T8.wrap T8.u64 (↑(SF (Sy (64:Nat) a^^^Sy (64:Nat) (T8.wrap T8.u64 (a - b)))):Int)))):Int)) w)],.int .i64 0]) mixed Tryz.func155 (by kernel_rfl) [.ret _ _ _ c0,tF,.ret _ _ _ c1,.ret _ _ _ c2,.ret _ _ _ c3] (by kernel_rfl)).to (by first|((simp only [wk,ax,and_true];repeat' (first|rfl|exact Tf|apply S7));done)|(simp [wk,ax,];done))
theorem dt (a:Int) (a0:0≤a) (a1:a≤15):aF Tryz.prog 167 ([.aj .tight 1 [.int .i8 a]]) (.int .i64 (j3 a)):=by
 exact (Ju (d:=D.int T8.i64 (T8.i64.wrap (↑(SF (Sy (64:Nat) 0|||Sy (64:Nat) (T8.i64.wrap (1*2^min (Sz a) (64:Nat))))):Int))) [.go 64,tT,tT,.get ([D.int T8.i8 a]) 0 (D.int T8.i8 a) rfl,tC (v:=true) (bB 0 (decide_eq_false (SD.2 a0))),tF] (by kernel_rfl)).to (by simp only [wk,D.int.injEq,true_and];obtain ⟨n_a,rfl⟩:=gY a0 a1;clear a0 a1;revert n_a;decide+kernel)
theorem Gj (a:Int) (a0:0≤a) (a1:a≤15) (b:Int) (b0:0≤b) (b1:b≤15):aF Tryz.prog 167 ([.aj .tight 1 [.int .i8 a,.int .i8 b]]) (.int .i64 (Cg (j3 a) (j3 b))):=by
 exact (Ju (d:=D.int T8.i64 (T8.i64.wrap (↑(SF (Sy (64:Nat) (T8.i64.wrap (↑(SF (Sy (64:Nat) 0|||Sy (64:Nat) (T8.i64.wrap (1*2^min (Sz a) (64:Nat))))):Int))|||Sy (64:Nat) (T8.i64.wrap (1*2^min (Sz b) (64:Nat))))):Int))) [.go 64,tT,tT,.get ([D.int T8.i8 a,D.int T8.i8 b]) 0 (D.int T8.i8 a) rfl,tC (v:=true) (bB 0 (decide_eq_false (SD.2 a0))),tT,tT,.get ([D.int T8.i8 a,D.int T8.i8 b]) 1 (D.int T8.i8 b) rfl,tC (v:=true) (bB 0 (decide_eq_false (SD.2 b0))),tF] (by kernel_rfl)).to (by simp only [wk,D.int.injEq,true_and];obtain ⟨n_a,rfl⟩:=gY a0 a1;obtain ⟨n_b,rfl⟩:=gY b0 b1;clear a0 a1 b0 b1;revert n_a n_b;decide+kernel)
def dg (Me:Int):Prop:= ∀(w dst src base aa ai cc:Int) (d0:0≤dst) (d1:dst≤15) (s0:0≤src) (s1:src≤15) (b0:0≤base) (b1:base≤15) (hm:ct Me w dst src base aa ai cc=true),aF Tryz.prog 157 ([xD Me w dst src base aa ai cc]) (.int .i64 (pq Me dst))
theorem wb:dg 0:=by
 intro w dst src base aa ai cc d0 d1 s0 s1 b0 b1 hm
 have c0:= @aK 0 w dst src base aa ai cc (by decide)
 rw [hm] at c0
 have c1:= @dt dst d0 d1
 exact (gi (d:= .int .i64 (j3 dst)) ([.ret _ _ _ c0]++Sx 11 tF++ [.ret _ _ _ c1]) (by kernel_rfl)).to (by rfl)
theorem wa:dg 1:=by
 intro w dst src base aa ai cc d0 d1 s0 s1 b0 b1 hm
 have c0:= @aK 1 w dst src base aa ai cc (by decide)
 rw [hm] at c0
 have c1:= @dt dst d0 d1
 exact (gi (d:= .int .i64 (j3 dst)) ([.ret _ _ _ c0]++Sx 11 tF++ [.ret _ _ _ c1]) (by kernel_rfl)).to (by rfl)
theorem v9:dg 2:=by
 intro w dst src base aa ai cc d0 d1 s0 s1 b0 b1 hm
 have c0:= @aK 2 w dst src base aa ai cc (by decide)
 rw [hm] at c0
 have c1:= @dt dst d0 d1
 exact (gi (d:= .int .i64 (j3 dst)) ([.ret _ _ _ c0]++Sx 11 tF++ [.ret _ _ _ c1]) (by kernel_rfl)).to (by rfl)
theorem v8:dg 3:=by
 intro w dst src base aa ai cc d0 d1 s0 s1 b0 b1 hm
 have c0:= @aK 3 w dst src base aa ai cc (by decide)
 rw [hm] at c0
 have c1:= @dt dst d0 d1
 exact (gi (d:= .int .i64 (j3 dst)) ([.ret _ _ _ c0]++Sx 11 tF++ [.ret _ _ _ c1]) (by kernel_rfl)).to (by rfl)
theorem v7:dg 4:=by
 intro w dst src base aa ai cc d0 d1 s0 s1 b0 b1 hm
 have c0:= @aK 4 w dst src base aa ai cc (by decide)
 rw [hm] at c0
 have c1:= @dt dst d0 d1
 exact (gi (d:= .int .i64 (j3 dst)) ([.ret _ _ _ c0]++Sx 11 tF++ [.ret _ _ _ c1]) (by kernel_rfl)).to (by rfl)
theorem v5:dg 5:=by
 intro w dst src base aa ai cc d0 d1 s0 s1 b0 b1 hm
 have c0:= @aK 5 w dst src base aa ai cc (by decide)
 rw [hm] at c0
 have c1:= @dt dst d0 d1
 exact (gi (d:= .int .i64 (j3 dst)) ([.ret _ _ _ c0]++Sx 11 tF++ [.ret _ _ _ c1]) (by kernel_rfl)).to (by rfl)
theorem vZ:dg 6:=by
 intro w dst src base aa ai cc d0 d1 s0 s1 b0 b1 hm
 have c0:= @aK 6 w dst src base aa ai cc (by decide)
 rw [hm] at c0
 have c1:= @dt dst d0 d1
 exact (gi (d:= .int .i64 (j3 dst)) ([.ret _ _ _ c0]++Sx 11 tF++ [.ret _ _ _ c1]) (by kernel_rfl)).to (by rfl)
theorem vY:dg 7:=by
 intro w dst src base aa ai cc d0 d1 s0 s1 b0 b1 hm
 have c0:= @aK 7 w dst src base aa ai cc (by decide)
 rw [hm] at c0
 exact (gi (d:= .int .i64 0) [.ret _ _ _ c0,tF,tT,tT] (by kernel_rfl)).to (by rfl)
theorem vX:dg 8:=by
 intro w dst src base aa ai cc d0 d1 s0 s1 b0 b1 hm
 have c0:= @aK 8 w dst src base aa ai cc (by decide)
 rw [hm] at c0
 exact (gi (d:= .int .i64 0) [.ret _ _ _ c0,tF,tF,tT,tT] (by kernel_rfl)).to (by rfl)
theorem vW:dg 9:=by
 intro w dst src base aa ai cc d0 d1 s0 s1 b0 b1 hm
 have c0:= @aK 9 w dst src base aa ai cc (by decide)
 rw [hm] at c0
 have c1:= @dt dst d0 d1
 exact (gi (d:= .int .i64 (j3 dst)) ([.ret _ _ _ c0]++Sx 11 tF++ [.ret _ _ _ c1]) (by kernel_rfl)).to (by rfl)
theorem uf:dg 10:=by
 intro w dst src base aa ai cc d0 d1 s0 s1 b0 b1 hm
 have c0:= @aK 10 w dst src base aa ai cc (by decide)
 rw [hm] at c0
 have c1:= @dt dst d0 d1
 exact (gi (d:= .int .i64 (j3 dst)) ([.ret _ _ _ c0]++Sx 11 tF++ [.ret _ _ _ c1]) (by kernel_rfl)).to (by rfl)
theorem ue:dg 11:=by
 intro w dst src base aa ai cc d0 d1 s0 s1 b0 b1 hm
 have c0:= @aK 11 w dst src base aa ai cc (by decide)
 rw [hm] at c0
 have c1:= @dt dst d0 d1
 exact (gi (d:= .int .i64 (j3 dst)) ([.ret _ _ _ c0]++Sx 11 tF++ [.ret _ _ _ c1]) (by kernel_rfl)).to (by rfl)
theorem ud:dg 12:=by
 intro w dst src base aa ai cc d0 d1 s0 s1 b0 b1 hm
 have c0:= @aK 12 w dst src base aa ai cc (by decide)
 rw [hm] at c0
 have c1:= @dt dst d0 d1
 exact (gi (d:= .int .i64 (j3 dst)) ([.ret _ _ _ c0]++Sx 11 tF++ [.ret _ _ _ c1]) (by kernel_rfl)).to (by rfl)
theorem uc:dg 13:=by
 intro w dst src base aa ai cc d0 d1 s0 s1 b0 b1 hm
 have c0:= @aK 13 w dst src base aa ai cc (by decide)
 rw [hm] at c0
 have c1:= @dt dst d0 d1
 exact (gi (d:= .int .i64 (j3 dst)) ([.ret _ _ _ c0]++Sx 11 tF++ [.ret _ _ _ c1]) (by kernel_rfl)).to (by rfl)
theorem ub:dg 14:=by
 intro w dst src base aa ai cc d0 d1 s0 s1 b0 b1 hm
 have c0:= @aK 14 w dst src base aa ai cc (by decide)
 rw [hm] at c0
 exact (gi (d:= .int .i64 0) [.ret _ _ _ c0,tF,tF,tF,tT,tT] (by kernel_rfl)).to (by rfl)
theorem ua:dg 15:=by
 intro w dst src base aa ai cc d0 d1 s0 s1 b0 b1 hm
 have c0:= @aK 15 w dst src base aa ai cc (by decide)
 rw [hm] at c0
 exact (gi (d:= .int .i64 0) [.ret _ _ _ c0,tF,tF,tF,tF,tT,tT] (by kernel_rfl)).to (by rfl)
theorem tZ:dg 16:=by
 intro w dst src base aa ai cc d0 d1 s0 s1 b0 b1 hm
 have c0:= @aK 16 w dst src base aa ai cc (by decide)
 rw [hm] at c0
 have c1:= @dt dst d0 d1
 exact (gi (d:= .int .i64 (j3 dst)) ([.ret _ _ _ c0]++Sx 11 tF++ [.ret _ _ _ c1]) (by kernel_rfl)).to (by rfl)
theorem tY:dg 17:=by
 intro w dst src base aa ai cc d0 d1 s0 s1 b0 b1 hm
 have c0:= @aK 17 w dst src base aa ai cc (by decide)
 rw [hm] at c0
 have c1:= @dt dst d0 d1
 exact (gi (d:= .int .i64 (j3 dst)) ([.ret _ _ _ c0]++Sx 11 tF++ [.ret _ _ _ c1]) (by kernel_rfl)).to (by rfl)
theorem tX:dg 18:=by
 intro w dst src base aa ai cc d0 d1 s0 s1 b0 b1 hm
 have c0:= @aK 18 w dst src base aa ai cc (by decide)
 rw [hm] at c0
 have c1:= @dt dst d0 d1
 exact (gi (d:= .int .i64 (j3 dst)) ([.ret _ _ _ c0]++Sx 11 tF++ [.ret _ _ _ c1]) (by kernel_rfl)).to (by rfl)
theorem tW:dg 19:=by
 intro w dst src base aa ai cc d0 d1 s0 s1 b0 b1 hm
 have c0:= @aK 19 w dst src base aa ai cc (by decide)
 rw [hm] at c0
 have c1:= @dt dst d0 d1
 exact (gi (d:= .int .i64 (j3 dst)) ([.ret _ _ _ c0]++Sx 11 tF++ [.ret _ _ _ c1]) (by kernel_rfl)).to (by rfl)
theorem tV:dg 20:=by
 intro w dst src base aa ai cc d0 d1 s0 s1 b0 b1 hm
 have c0:= @aK 20 w dst src base aa ai cc (by decide)
 rw [hm] at c0
 have c1:= @dt dst d0 d1
 exact (gi (d:= .int .i64 (j3 dst)) ([.ret _ _ _ c0]++Sx 11 tF++ [.ret _ _ _ c1]) (by kernel_rfl)).to (by rfl)
theorem tU:dg 21:=by
 intro w dst src base aa ai cc d0 d1 s0 s1 b0 b1 hm
 have c0:= @aK 21 w dst src base aa ai cc (by decide)
 rw [hm] at c0
 have c1:= @dt dst d0 d1
 exact (gi (d:= .int .i64 (j3 dst)) ([.ret _ _ _ c0]++Sx 11 tF++ [.ret _ _ _ c1]) (by kernel_rfl)).to (by rfl)
theorem tS:dg 22:=by
 intro w dst src base aa ai cc d0 d1 s0 s1 b0 b1 hm
 have c0:= @aK 22 w dst src base aa ai cc (by decide)
 rw [hm] at c0
 have c1:= @dt dst d0 d1
 exact (gi (d:= .int .i64 (j3 dst)) ([.ret _ _ _ c0]++Sx 11 tF++ [.ret _ _ _ c1]) (by kernel_rfl)).to (by rfl)
theorem tR:dg 23:=by
 intro w dst src base aa ai cc d0 d1 s0 s1 b0 b1 hm
 have c0:= @aK 23 w dst src base aa ai cc (by decide)
 rw [hm] at c0
 have c1:= @dt dst d0 d1
 exact (gi (d:= .int .i64 (j3 dst)) ([.ret _ _ _ c0]++Sx 11 tF++ [.ret _ _ _ c1]) (by kernel_rfl)).to (by rfl)
theorem tQ:dg 24:=by
 intro w dst src base aa ai cc d0 d1 s0 s1 b0 b1 hm
 have c0:= @aK 24 w dst src base aa ai cc (by decide)
 rw [hm] at c0
 have c1:= @Gj 0 (by decide) (by decide) 2 (by decide) (by decide)
 exact (gi (d:= .int .i64 5) ([.ret _ _ _ c0]++Sx 8 tF++ [tT,.ret _ _ _ c1]) (by kernel_rfl)).to (by rfl)
theorem tP:dg 25:=by
 intro w dst src base aa ai cc d0 d1 s0 s1 b0 b1 hm
 have c0:= @aK 25 w dst src base aa ai cc (by decide)
 rw [hm] at c0
 have c1:= @dt dst d0 d1
 exact (gi (d:= .int .i64 (j3 dst)) ([.ret _ _ _ c0]++Sx 11 tF++ [.ret _ _ _ c1]) (by kernel_rfl)).to (by rfl)
theorem tN:dg 26:=by
 intro w dst src base aa ai cc d0 d1 s0 s1 b0 b1 hm
 have c0:= @aK 26 w dst src base aa ai cc (by decide)
 rw [hm] at c0
 have c1:= @dt dst d0 d1
 exact (gi (d:= .int .i64 (j3 dst)) ([.ret _ _ _ c0]++Sx 11 tF++ [.ret _ _ _ c1]) (by kernel_rfl)).to (by rfl)
theorem tM:dg 27:=by
 intro w dst src base aa ai cc d0 d1 s0 s1 b0 b1 hm
 have c0:= @aK 27 w dst src base aa ai cc (by decide)
 rw [hm] at c0
 exact (gi (d:= .int .i64 0) [.ret _ _ _ c0,tF,tF,tF,tF,tF,tT,tT] (by kernel_rfl)).to (by rfl)
theorem tL:dg 28:=by
 intro w dst src base aa ai cc d0 d1 s0 s1 b0 b1 hm
 have c0:= @aK 28 w dst src base aa ai cc (by decide)
 rw [hm] at c0
 exact (gi (d:= .int .i64 0) [.ret _ _ _ c0,tF,tF,tF,tF,tF,tF,tT,tT] (by kernel_rfl)).to (by rfl)
theorem tK:dg 29:=by
 intro w dst src base aa ai cc d0 d1 s0 s1 b0 b1 hm
 have c0:= @aK 29 w dst src base aa ai cc (by decide)
 rw [hm] at c0
 exact (gi (d:= .int .i64 0) [.ret _ _ _ c0,tF,tF,tF,tF,tF,tF,tF,tT] (by kernel_rfl)).to (by rfl)
theorem tJ:dg 30:=by
 intro w dst src base aa ai cc d0 d1 s0 s1 b0 b1 hm
 have c0:= @aK 30 w dst src base aa ai cc (by decide)
 rw [hm] at c0
 have c1:= @dt 4 (by decide) (by decide)
 exact (gi (d:= .int .i64 16) ([.ret _ _ _ c0]++Sx 9 tF++ [tT,.ret _ _ _ c1]) (by kernel_rfl)).to (by rfl)
theorem tI:dg 31:=by
 intro w dst src base aa ai cc d0 d1 s0 s1 b0 b1 hm
 have c0:= @aK 31 w dst src base aa ai cc (by decide)
 rw [hm] at c0
 exact (gi (d:= .int .i64 2051) ([.ret _ _ _ c0]++Sx 10 tF++ [tT,.inl,.go 64,tT,tT,.get ([.int .i8 0,.int .i8 1,.int .i8 11]) 0 (.int .i8 0) rfl,tT,tT,tT,.get ([.int .i8 0,.int .i8 1,.int .i8 11]) 1 (.int .i8 1) rfl,tT,tT,tT,.get ([.int .i8 0,.int .i8 1,.int .i8 11]) 2 (.int .i8 11) rfl,tT,tF]) (by kernel_rfl)).to (by rfl)
theorem tH (op w dst src base aa ai cc:Int) (ho:op≤127) (hm:ct op w dst src base aa ai cc=false):aF Tryz.prog 157 ([xD op w dst src base aa ai cc]) (.int .i64 0):=by
 have c0:= @aK op w dst src base aa ai cc ho
 rw [hm] at c0
 exact (gi (d:= .int .i64 0) [.ret _ _ _ c0,tT] (by kernel_rfl)).to (by simp [wk])
theorem GW {op w dst src base aa ai cc:Int} (h:ct op w dst src base aa ai cc=true):aA op≠0:=by
 have hs:=(dF h).2
 intro e
 rw [e] at hs
 simp [iw] at hs
theorem bq (op w dst src base aa ai cc:Int) (ho:op≤127):aF Tryz.prog 157 [xD op w dst src base aa ai cc] (.int .i64 (jJ op w dst src base aa ai cc)):=by
 unfold jJ
 cases h:ct op w dst src base aa ai cc
 ·simp only [Bool.false_eq_true,if_false]
  exact tH op w dst src base aa ai cc ho h
 ·simp only [if_true]
  obtain ⟨⟨d0,d1,s0,s1,b0,b1,p0,p1,i0,i1⟩,hs⟩:=dF h
  have Oq:=GW h
  clear hs
  rcases hP Oq with rfl|rfl|rfl|rfl|rfl|rfl|rfl|rfl|rfl|rfl|rfl|rfl|rfl|rfl|rfl|rfl|rfl|rfl|rfl|rfl|rfl|rfl|rfl|rfl|rfl|rfl|rfl|rfl|rfl|rfl|rfl|rfl
  ·exact wb _ _ _ _ _ _ _ d0 d1 s0 s1 b0 b1 h
  ·exact wa _ _ _ _ _ _ _ d0 d1 s0 s1 b0 b1 h
  ·exact v9 _ _ _ _ _ _ _ d0 d1 s0 s1 b0 b1 h
  ·exact v8 _ _ _ _ _ _ _ d0 d1 s0 s1 b0 b1 h
  ·exact v7 _ _ _ _ _ _ _ d0 d1 s0 s1 b0 b1 h
  ·exact v5 _ _ _ _ _ _ _ d0 d1 s0 s1 b0 b1 h
  ·exact vZ _ _ _ _ _ _ _ d0 d1 s0 s1 b0 b1 h
  ·exact vY _ _ _ _ _ _ _ d0 d1 s0 s1 b0 b1 h
  ·exact vX _ _ _ _ _ _ _ d0 d1 s0 s1 b0 b1 h
  ·exact vW _ _ _ _ _ _ _ d0 d1 s0 s1 b0 b1 h
  ·exact uf _ _ _ _ _ _ _ d0 d1 s0 s1 b0 b1 h
  ·exact ue _ _ _ _ _ _ _ d0 d1 s0 s1 b0 b1 h
  ·exact ud _ _ _ _ _ _ _ d0 d1 s0 s1 b0 b1 h
  ·exact uc _ _ _ _ _ _ _ d0 d1 s0 s1 b0 b1 h
  ·exact ub _ _ _ _ _ _ _ d0 d1 s0 s1 b0 b1 h
  ·exact ua _ _ _ _ _ _ _ d0 d1 s0 s1 b0 b1 h
  ·exact tZ _ _ _ _ _ _ _ d0 d1 s0 s1 b0 b1 h
  ·exact tY _ _ _ _ _ _ _ d0 d1 s0 s1 b0 b1 h
  ·exact tX _ _ _ _ _ _ _ d0 d1 s0 s1 b0 b1 h
  ·exact tW _ _ _ _ _ _ _ d0 d1 s0 s1 b0 b1 h
  ·exact tV _ _ _ _ _ _ _ d0 d1 s0 s1 b0 b1 h
  ·exact tU _ _ _ _ _ _ _ d0 d1 s0 s1 b0 b1 h
  ·exact tS _ _ _ _ _ _ _ d0 d1 s0 s1 b0 b1 h
  ·exact tR _ _ _ _ _ _ _ d0 d1 s0 s1 b0 b1 h
  ·exact tQ _ _ _ _ _ _ _ d0 d1 s0 s1 b0 b1 h
  ·exact tP _ _ _ _ _ _ _ d0 d1 s0 s1 b0 b1 h
  ·exact tN _ _ _ _ _ _ _ d0 d1 s0 s1 b0 b1 h
  ·exact tM _ _ _ _ _ _ _ d0 d1 s0 s1 b0 b1 h
  ·exact tL _ _ _ _ _ _ _ d0 d1 s0 s1 b0 b1 h
  ·exact tK _ _ _ _ _ _ _ d0 d1 s0 s1 b0 b1 h
  ·exact tJ _ _ _ _ _ _ _ d0 d1 s0 s1 b0 b1 h
  ·exact tI _ _ _ _ _ _ _ d0 d1 s0 s1 b0 b1 h
end Go.Proofs.YtbfpahigdpigpaaGreat
namespace Go.Ev
open Go
theorem KY (a:Int):a.fdiv 8=a / 8:=Int.fdiv_eq_ediv_of_nonneg _ (by decide)
def Ly (n:Int):Prop:=0≤n∧n≤18446744073709551615
theorem vz (v w:Int):aV (aV v w) w=aV v w:=by
 unfold aV
 split
 ·omega
 ·split
  ·omega
  ·split
   ·omega
   ·rfl
def K7 (w k:Int):Int:=T8.i64.wrap ((Sy 64 (w.fdiv (2^(min k.toNat 64)))&&&Sy 64 1).toNat:Int)
def Li (w dst src:Int):Bool:=bj w&&bA dst&&bA src
theorem cV {sh w dst src base aa ai cc:Int} (h:iw sh w dst src base aa ai cc=true) (hs:sh=1∨sh=2∨sh=3∨sh=4∨sh=5∨sh=6):bj w=true:=by
 rcases hs with rfl|rfl|rfl|rfl|rfl|rfl<;>simp [iw] at h<;>first|exact h.1|exact h.1.1|exact h
theorem EX {w dst src base aa ai cc:Int} (h:iw 6 w dst src base aa ai cc=true):fE cc=true:=by
 simp [iw] at h;exact h.2
theorem AH {w dst src base aa ai cc:Int} (h:iw 10 w dst src base aa ai cc=true):fE cc=true:=by
 simp [iw] at h;exact h.2
structure ao where
  (q0 q1 q2 q3 q4 q5 q6 q7 q8 q9 bQ bU bZ bX bW bV:Int)
  (fk fc fz fs fo:Bool)
  (pc:Int)
deriving DecidableEq
def ao.d (m:ao):D:= .agg [.int .u64 m.q0,.int .u64 m.q1,.int .u64 m.q2,.int .u64 m.q3,.int .u64 m.q4,.int .u64 m.q5,.int .u64 m.q6,.int .u64 m.q7,.int .u64 m.q8,.int .u64 m.q9,.int .u64 m.bQ,.int .u64 m.bU,.int .u64 m.bZ,.int .u64 m.bX,.int .u64 m.bW,.int .u64 m.bV,.bool m.fk,.bool m.fc,.bool m.fz,.bool m.fs,.bool m.fo,.int .u64 m.pc]
def ao.rl (m:ao):List Int:= [m.q0,m.q1,m.q2,m.q3,m.q4,m.q5,m.q6,m.q7,m.q8,m.q9,m.bQ,m.bU,m.bZ,m.bX,m.bW,m.bV]
def ao.put (m:ao) (i v:Int):ao:=⟨st 0 i v m.q0,st 1 i v m.q1,st 2 i v m.q2,st 3 i v m.q3,st 4 i v m.q4,st 5 i v m.q5,st 6 i v m.q6,st 7 i v m.q7,st 8 i v m.q8,st 9 i v m.q9,st 10 i v m.bQ,st 11 i v m.bU,st 12 i v m.bZ,st 13 i v m.bX,st 14 i v m.bW,st 15 i v m.bV,m.fk,m.fc,m.fz,m.fs,m.fo,m.pc⟩
def ao.flags (m:ao) (k c z s o:Bool):ao:=⟨m.q0,m.q1,m.q2,m.q3,m.q4,m.q5,m.q6,m.q7,m.q8,m.q9,m.bQ,m.bU,m.bZ,m.bX,m.bW,m.bV,k,c,z,s,o,m.pc⟩
def ao.at (m:ao) (v:Int):ao:=⟨m.q0,m.q1,m.q2,m.q3,m.q4,m.q5,m.q6,m.q7,m.q8,m.q9,m.bQ,m.bU,m.bZ,m.bX,m.bW,m.bV,m.fk,m.fc,m.fz,m.fs,m.fo,v⟩
def ao.zero:ao:=⟨0,0,0,0,0,0,0,0,0,0,0,0,0,0,0,0,false,false,false,false,false,0⟩
def XS.len (x:XS):Int:=dJ x.op x.w x.dst x.src x.base x.aa x.ai x.cc
def XS.may (x:XS):Bool:=ct x.op x.w x.dst x.src x.base x.aa x.ai x.cc
def Km (op:Int):Option (Int×Int):=
  match op with
  |2=>some (0,0)
  |3=>some (4,0)
  |4=>some (5,0)
  |5=>some (1,0)
  |6=>some (10,0)
  |7=>some (1,0)
  |8=>some (5,0)
  |9=>some (0,1)
  |10=>some (4,1)
  |11=>some (5,1)
  |12=>some (1,1)
  |13=>some (10,1)
  |14=>some (1,1)
  |15=>some (5,1)
  |16=>some (2,0)
  |17=>some (6,1)
  |18=>some (7,1)
  |19=>some (12,1)
  |20=>some (6,2)
  |21=>some (7,2)
  |22=>some (12,2)
  |23=>some (8,0)
  |_=>none
def Kp (m:ao) (x:XS) (k:Int):Int:=match k with
  |2=>m.q1
  |1=>u64 x.ai
  |_=>rg m.rl x.src
def AU (m:ao) (s w a b v:Int):ao:=match s with
  |0=>m.flags true (Hv w a b) (aV (u64 (a+b)) w==0) (gW (u64 (a+b)) w) (Hu w a b)
  |1=>m.flags true (Bk w a b) (aV (u64 (a - b)) w==0) (gW (u64 (a - b)) w) (Bi w a b)
  |8=>m.flags true (Bk w 0 a) (aV (u64 (0 - a)) w==0) (gW (u64 (0 - a)) w) (Bi w 0 a)
  |4=>m.flags true false (aV v w==0) (gW v w) false
  |5=>m.flags true false (aV v w==0) (gW v w) false
  |10=>m.flags true false (aV v w==0) (gW v w) false
  |_=>m.flags false false false false false
def IK (op:Int):Bool:=match op with
  |7=>true
  |8=>true
  |14=>true
  |15=>true
  |_=>false
def jW (m:ao) (x:XS) (ld:Int):ao×Int:=match Km x.op with
  |some (s,k)=>
    let a:=rg m.rl x.dst
    let b:=Kp m x k
    let v:=gK s x.w a b
    match IK x.op with
    |true=>(AU m s x.w a b v,0)
    |false=>((AU m s x.w a b v).put x.dst v,0)
  |none=>match x.op with
    |0=>(m.put x.dst (aV (rg m.rl x.src) x.w),0)
    |1=>(m.put x.dst (aV (u64 x.ai) x.w),0)
    |24=>match aV (rg m.rl x.dst) x.w==0 with
      |true=>(.zero,20)
      |false=>match aV m.q2 x.w==0 with
        |false=>(.zero,20)
        |true=>(({ m with q0:=u64 ((aV m.q0 x.w).tdiv (aV (rg m.rl x.dst) x.w)),q2:=(aV m.q0 x.w).tmod (aV (rg m.rl x.dst) x.w) }).flags false false false false false,0)
    |25=>match m.fk with
      |false=>(.zero,20)
      |true=>(m.put x.dst (aV (if dC x.cc m.fc m.fz m.fs m.fo then rg m.rl x.src else rg m.rl x.dst) x.w),0)
    |26=>(m.put x.dst (aV ld x.w),0)
    |28=>(m.at (u64 (m.pc+u64 x.ai)),0)
    |29=>match m.fk with
      |false=>(.zero,20)
      |true=>(m.at (if dC x.cc m.fc m.fz m.fs m.fo then u64 (m.pc+u64 x.ai) else m.pc),0)
    |30=>(({ m with q4:=u64 (m.q4+8) }).at ld,0)
    |31=>({ m with q0:=ld,q1:=0,bU:=0 },0)
    |_=>(m,0)
def fm (m:ao) (x:XS) (ld:Int):ao×Int:=match x.may with
  |false=>(.zero,2)
  |true=>jW (m.at (u64 (m.pc+u64 x.len))) x ld
def K0 (m:ao) (x:XS) (ld:Int):ao:=(fm m x ld).1
def K1 (m:ao) (x:XS) (ld:Int):Int:=(fm m x ld).2
theorem FA {m:ao} {x:XS} {ld:Int} (h:x.may=false):fm m x ld=(.zero,2):=by unfold fm;rw [h]
theorem tj {m:ao} {x:XS} {ld:Int} (h:x.may=true):fm m x ld=jW (m.at (u64 (m.pc+u64 x.len))) x ld:=by unfold fm;rw [h]
def eg (m:ao) (op w dst src base aa ai cc:Int):Int:=u64 (m.pc+u64 (dJ op w dst src base aa ai cc))
def xT (op w dst src base aa ai cc ld:Int):List D:= [.int .i8 op,.int .i8 w,.int .i8 dst,.int .i8 src,.int .i8 base,.int .i64 aa,.int .i64 ai,.int .i8 cc,.int .u64 ld]
def fT (m:ao) (p:Int) (tl:List D):List D:= .bool m.fk:: .bool m.fc:: .bool m.fz:: .bool m.fs:: .bool m.fo:: .int .u64 p::tl
def zC:List D:= [.int .u64 0,.int .u64 0,.int .u64 0,.int .u64 0,.int .u64 0,.int .u64 0,.int .u64 0,.int .u64 0,.int .u64 0,.int .u64 0,.int .u64 0,.int .u64 0,.int .u64 0,.int .u64 0,.int .u64 0,.int .u64 0,.bool false,.bool false,.bool false,.bool false,.bool false,.int .u64 0]
def ao.cw (m:ao) (p:Int) (tl:List D):List D:= .int .u64 m.q0:: .int .u64 m.q1:: .int .u64 m.q2:: .int .u64 m.q3:: .int .u64 m.q4:: .int .u64 m.q5:: .int .u64 m.q6:: .int .u64 m.q7:: .int .u64 m.q8:: .int .u64 m.q9:: .int .u64 m.bQ:: .int .u64 m.bU:: .int .u64 m.bZ:: .int .u64 m.bX:: .int .u64 m.bW:: .int .u64 m.bV:: .bool m.fk:: .bool m.fc:: .bool m.fz:: .bool m.fs:: .bool m.fo:: .int .u64 p::tl
theorem bL (m:ao) (i:Int) (tl:List D) (h0:0≤i) (h1:i≤15):(D.int .u64 m.q0::D.int .u64 m.q1::D.int .u64 m.q2::D.int .u64 m.q3::D.int .u64 m.q4::D.int .u64 m.q5::D.int .u64 m.q6::D.int .u64 m.q7::D.int .u64 m.q8::D.int .u64 m.q9::D.int .u64 m.bQ::D.int .u64 m.bU::D.int .u64 m.bZ::D.int .u64 m.bX::D.int .u64 m.bW::D.int .u64 m.bV::tl:List D)[0+i.toNat*1]? =some (.int .u64 (rg m.rl i)):=lW h0 h1
theorem db (m:ao) (i v:Int) (tl:List D) (h0:0≤i) (h1:i≤15):A2 (D.int .u64 m.q0::D.int .u64 m.q1::D.int .u64 m.q2::D.int .u64 m.q3::D.int .u64 m.q4::D.int .u64 m.q5::D.int .u64 m.q6::D.int .u64 m.q7::D.int .u64 m.q8::D.int .u64 m.q9::D.int .u64 m.bQ::D.int .u64 m.bU::D.int .u64 m.bZ::D.int .u64 m.bX::D.int .u64 m.bW::D.int .u64 m.bV::tl:List D) (0+i.toNat*1) [D.int .u64 v] (D.int .u64 (m.put i v).q0::D.int .u64 (m.put i v).q1::D.int .u64 (m.put i v).q2::D.int .u64 (m.put i v).q3::D.int .u64 (m.put i v).q4::D.int .u64 (m.put i v).q5::D.int .u64 (m.put i v).q6::D.int .u64 (m.put i v).q7::D.int .u64 (m.put i v).q8::D.int .u64 (m.put i v).q9::D.int .u64 (m.put i v).bQ::D.int .u64 (m.put i v).bU::D.int .u64 (m.put i v).bZ::D.int .u64 (m.put i v).bX::D.int .u64 (m.put i v).bW::D.int .u64 (m.put i v).bV::tl):=uG h0 h1
def K9 (m:ao) (x:XS):Int×Int×Bool:=
  if x.may=true∧(x.op=26∨x.op=27) then (u64 (rg m.rl x.base+u64 x.aa),x.w / 8,true)
  else if x.may=true∧x.op=30 then (m.q4,8,true)
  else (0,0,false)
def J8 (m:ao) (x:XS):Int:=if x.may=true∧x.op=27 then aV (rg m.rl x.src) x.w else 0
def Lh (m:ao):Int×Bool:=if 16≤m.q0 then (0,false) else (T8.i64.wrap m.q0,true)
def mF (q:Int):Int:=if 16≤q then 0 else T8.i64.wrap q
def sj (q:Int):Bool:= !decide (16≤q)
theorem Io {q:Int} (h:16≤q):sj q=false:=by unfold sj;simp;omega
theorem ET {q:Int} (h:decide (q<16)=true):wk (.aC [.int .i64 (T8.i64.wrap q),.bool true]) (.aC [.int .i64 (mF q),.bool (sj q)]):=by
 rw [decide_eq_true_eq] at h
 have e:mF q=T8.i64.wrap q:=by unfold mF;rw [if_neg (by omega)]
 have f:sj q=true:=by unfold sj;simp;omega
 rw [e,f];simp [wk,ax]
theorem EU {q:Int} (h:decide (q<16)=false):wk (.aC [.int .i64 0,.bool false]) (.aC [.int .i64 (mF q),.bool (sj q)]):=by
 rw [decide_eq_false_iff_not] at h
 have e:mF q=0:=by unfold mF;rw [if_pos (by omega)]
 have f:sj q=false:=Io (by omega)
 rw [e,f];simp [wk,ax]
def K8 (m:ao):List Int:=if 16≤m.q0 then [] else [m.q7,m.q6,m.q2,m.bQ,m.q8].take (m.q0.toNat%6)
def wD (l:List Int):List D:=l.map (fun x=> .int .u64 x)
def KR (cc:Int):Int×Bool:=
  if cc=0 then (4,true) else if cc=1 then (5,true) else if cc=2 then (7,true) else if cc=3 then (3,true) else if cc=4 then (2,true) else if cc=5 then (6,true)
  else if cc=6 then (15,true) else if cc=7 then (13,true) else if cc=8 then (12,true) else if cc=9 then (14,true) else if cc=10 then (5,true) else (0,false)
def Lq (cc:Int):Int×Bool:=
  if cc=4 then (0,true) else if cc=5 then (1,true) else if cc=7 then (2,true) else if cc=3 then (3,true) else if cc=2 then (4,true) else if cc=6 then (5,true)
  else if cc=15 then (6,true) else if cc=13 then (7,true) else if cc=12 then (8,true) else if cc=14 then (9,true) else (0,false)
end Go.Ev
namespace Go.Proofs.YtbfpahigdpigpaaGreat
open Go Go.Ev
theorem C7 (m:ao) (w dst src base aa ai cc ld:Int) (d0:0≤dst) (d1:dst≤15) (s0:0≤src) (s1:src≤15) (b0:0≤base) (b1:base≤15) (hm:ct 2 w dst src base aa ai cc=true) (hw:bj w=true):aF Tryz.prog 83 ([m.d,xD 2 w dst src base aa ai cc,.int .u64 ld]) (.aC [(jW (m.at (u64 (m.pc+u64 (dJ 2 w dst src base aa ai cc)))) ⟨2,w,dst,src,base,aa,ai,cc⟩ ld).1.d,.int .i64 0]):=by
 have c0:= @aK 2 w dst src base aa ai cc (by decide)
 rw [show (ct 2 w dst src base aa ai cc)=true from hm] at c0
 have c1:= @b9 2 w dst src base aa ai cc (by decide)
 have c2:= @xB w (rg (ao.rl m) dst) (rg (ao.rl m) src) hw
 have c3:= @AW w (rg (ao.rl m) dst) (rg (ao.rl m) src) hw
 have c4:= @bq 2 w dst src base aa ai cc (by decide)
 exact (j9 (d:= .aC [(jW (m.at (u64 (m.pc+u64 (dJ 2 w dst src base aa ai cc)))) ⟨2,w,dst,src,base,aa,ai,cc⟩ ld).1.d,.int .i64 0]) ([.ret _ _ _ c0,tF,.ret _ _ _ c1,tT,.get ([D.fn (SB 117) [.ptr false 4 0] [],D.fn (SB 118) [.ptr false 4 0] [],D.aq,D.aq,D.aq,D.aq,D.aq,D.aq,D.aq,D.aq,D.aq,D.aq,D.aq,D.aq,D.aq,D.aq,D.aq,D.aq,D.aq,D.aq,D.aq,D.aq,D.aq,D.aq,D.fn (SB 119) [.ptr false 4 0] [],D.fn (SB 120) [.ptr false 4 0] [],D.fn (SB 121) [.ptr false 4 0] [],D.fn (SB 122) [.ptr false 4 0] [],D.fn (SB 123) [.ptr false 4 0] [],D.fn (SB 124) [.ptr false 4 0] [],D.fn (SB 125) [.ptr false 4 0] [],D.fn (SB 126) [.ptr false 4 0] []]) 2 (D.aq) rfl,tT,.inl,.inl,.aD [(4,.box (ao.cw m (eg m 2 w dst src base aa ai cc) (xT 2 w dst src base aa ai cc ld)))],.gn ([(2,.int .i8 0),(9,.int .i8 0),(3,.int .i8 4),(10,.int .i8 4),(4,.int .i8 5),(11,.int .i8 5),(8,.int .i8 5),(15,.int .i8 5),(5,.int .i8 1),(12,.int .i8 1),(7,.int .i8 1),(14,.int .i8 1),(6,.int .i8 10),(13,.int .i8 10),(16,.int .i8 2),(17,.int .i8 6),(20,.int .i8 6),(18,.int .i8 7),(21,.int .i8 7),(19,.int .i8 12),(22,.int .i8 12),(23,.int .i8 8)]) 2 (some (.int .i8 0)) rfl,.cQ _ true (dQ d0 d1),.get _ _ _ (@bL m dst ((fT m (eg m 2 w dst src base aa ai cc) (xT 2 w dst src base aa ai cc ld))) d0 d1),.inl]++Sx 24 tF++ [.cQ _ true (dQ s0 s1),.get _ _ _ (@bL m src ((fT m (eg m 2 w dst src base aa ai cc) (xT 2 w dst src base aa ai cc ld))) s0 s1),.aD [(4,.box (ao.cw m (eg m 2 w dst src base aa ai cc) (xT 2 w dst src base aa ai cc ld)))],.ret _ _ _ c2,tF,tT,.ret _ _ _ c3,.ret _ _ _ c4,tC (nt (@hH 2 w dst src base aa ai cc hm d0 d1 (rfl:true=true))),.cQ _ true (dQ d0 d1),.cg _ _ _ _ (@db m dst (gK 0 w (rg (ao.rl m) dst) (rg (ao.rl m) src)) ([.bool true,.bool (Hv w (rg (ao.rl m) dst) (rg (ao.rl m) src)),.bool (aV (u64 (rg (ao.rl m) dst+rg (ao.rl m) src)) w==0),.bool (gW (u64 (rg (ao.rl m) dst+rg (ao.rl m) src)) w),.bool (Hu w (rg (ao.rl m) dst) (rg (ao.rl m) src)),.int .u64 (eg m 2 w dst src base aa ai cc),.int .i8 2,.int .i8 w,.int .i8 dst,.int .i8 src,.int .i8 base,.int .i64 aa,.int .i64 ai,.int .i8 cc,.int .u64 ld]) d0 d1),tF]) (by kernel_rfl))
def qd:List D:= [D.fn (SB 117) [.ptr false 4 0] [],D.fn (SB 118) [.ptr false 4 0] [],D.aq,D.aq,D.aq,D.aq,D.aq,D.aq,D.aq,D.aq,D.aq,D.aq,D.aq,D.aq,D.aq,D.aq,D.aq,D.aq,D.aq,D.aq,D.aq,D.aq,D.aq,D.aq,D.fn (SB 119) [.ptr false 4 0] [],D.fn (SB 120) [.ptr false 4 0] [],D.fn (SB 121) [.ptr false 4 0] [],D.fn (SB 122) [.ptr false 4 0] [],D.fn (SB 123) [.ptr false 4 0] [],D.fn (SB 124) [.ptr false 4 0] [],D.fn (SB 125) [.ptr false 4 0] [],D.fn (SB 126) [.ptr false 4 0] []]
def qc:List (Int×D):= [((2:Int),.int .i8 0),((9:Int),.int .i8 0),((3:Int),.int .i8 4),((10:Int),.int .i8 4),((4:Int),.int .i8 5),((11:Int),.int .i8 5),((8:Int),.int .i8 5),((15:Int),.int .i8 5),((5:Int),.int .i8 1),((12:Int),.int .i8 1),((7:Int),.int .i8 1),((14:Int),.int .i8 1),((6:Int),.int .i8 10),((13:Int),.int .i8 10),((16:Int),.int .i8 2),((17:Int),.int .i8 6),((20:Int),.int .i8 6),((18:Int),.int .i8 7),((21:Int),.int .i8 7),((19:Int),.int .i8 12),((22:Int),.int .i8 12),((23:Int),.int .i8 8)]
def mR (Me:Int):Prop:= ∀(m:ao) (w dst src base aa ai cc ld:Int) (d0:0≤dst) (d1:dst≤15) (s0:0≤src) (s1:src≤15) (b0:0≤base) (b1:base≤15) (hm:ct Me w dst src base aa ai cc=true) (hw:bj w=true),aF Tryz.prog 83 ([m.d,xD Me w dst src base aa ai cc,.int .u64 ld]) (.aC [(jW (m.at (u64 (m.pc+u64 (dJ Me w dst src base aa ai cc)))) ⟨Me,w,dst,src,base,aa,ai,cc⟩ ld).1.d,.int .i64 0])
theorem C6:mR 3:=by
 intro m w dst src base aa ai cc ld d0 d1 s0 s1 b0 b1 hm hw
 have c0:= @aK 3 w dst src base aa ai cc (by decide)
 rw [hm] at c0
 have c1:= @b9 3 w dst src base aa ai cc (by decide)
 have c2:= @xA w (rg (ao.rl m) dst) (rg (ao.rl m) src) hw
 have c3:= @jC w (gK 4 w (rg (ao.rl m) dst) (rg (ao.rl m) src)) hw
 have c4:= @bq 3 w dst src base aa ai cc (by decide)
 exact (j9 (d:= .aC [(jW (m.at (u64 (m.pc+u64 (dJ 3 w dst src base aa ai cc)))) ⟨3,w,dst,src,base,aa,ai,cc⟩ ld).1.d,.int .i64 0]) ([.ret _ _ _ c0,tF,.ret _ _ _ c1,tT,.get qd 3 (.aq) rfl,tT,.inl,.inl,.aD [(4,.box (ao.cw m (eg m 3 w dst src base aa ai cc) (xT 3 w dst src base aa ai cc ld)))],.gn qc 3 (some (.int .i8 4)) rfl,.cQ _ true (dQ d0 d1),.get _ _ _ (@bL m dst ((fT m (eg m 3 w dst src base aa ai cc) (xT 3 w dst src base aa ai cc ld))) d0 d1),.inl]++Sx 24 tF++ [.cQ _ true (dQ s0 s1),.get _ _ _ (@bL m src ((fT m (eg m 3 w dst src base aa ai cc) (xT 3 w dst src base aa ai cc ld))) s0 s1),.aD [(4,.box (ao.cw m (eg m 3 w dst src base aa ai cc) (xT 3 w dst src base aa ai cc ld)))],.ret _ _ _ c2,tF,tF,tF,tF,tT,tT,.ret _ _ _ c3,.ret _ _ _ c4,tC (nt (@hH 3 w dst src base aa ai cc hm d0 d1 (rfl:true=true))),.cQ _ true (dQ d0 d1),.cg _ _ _ _ (@db m dst (gK 4 w (rg (ao.rl m) dst) (rg (ao.rl m) src)) ([.bool true,.bool false,.bool (aV (gK 4 w (rg (ao.rl m) dst) (rg (ao.rl m) src)) w==0),.bool (gW (gK 4 w (rg (ao.rl m) dst) (rg (ao.rl m) src)) w),.bool false,.int .u64 (eg m 3 w dst src base aa ai cc),.int .i8 3,.int .i8 w,.int .i8 dst,.int .i8 src,.int .i8 base,.int .i64 aa,.int .i64 ai,.int .i8 cc,.int .u64 ld]) d0 d1),tF]) (by kernel_rfl))
theorem C5:mR 4:=by
 intro m w dst src base aa ai cc ld d0 d1 s0 s1 b0 b1 hm hw
 have c0:= @aK 4 w dst src base aa ai cc (by decide)
 rw [hm] at c0
 have c1:= @b9 4 w dst src base aa ai cc (by decide)
 have c2:= @nH w (rg (ao.rl m) dst) (rg (ao.rl m) src) hw
 have c3:= @jC w (gK 5 w (rg (ao.rl m) dst) (rg (ao.rl m) src)) hw
 have c4:= @bq 4 w dst src base aa ai cc (by decide)
 exact (j9 (d:= .aC [(jW (m.at (u64 (m.pc+u64 (dJ 4 w dst src base aa ai cc)))) ⟨4,w,dst,src,base,aa,ai,cc⟩ ld).1.d,.int .i64 0]) ([.ret _ _ _ c0,tF,.ret _ _ _ c1,tT,.get qd 4 (.aq) rfl,tT,.inl,.inl,.aD [(4,.box (ao.cw m (eg m 4 w dst src base aa ai cc) (xT 4 w dst src base aa ai cc ld)))],.gn qc 4 (some (.int .i8 5)) rfl,.cQ _ true (dQ d0 d1),.get _ _ _ (@bL m dst ((fT m (eg m 4 w dst src base aa ai cc) (xT 4 w dst src base aa ai cc ld))) d0 d1),.inl]++Sx 24 tF++ [.cQ _ true (dQ s0 s1),.get _ _ _ (@bL m src ((fT m (eg m 4 w dst src base aa ai cc) (xT 4 w dst src base aa ai cc ld))) s0 s1),.aD [(4,.box (ao.cw m (eg m 4 w dst src base aa ai cc) (xT 4 w dst src base aa ai cc ld)))],.ret _ _ _ c2,tF,tF,tF,tF,tF,tT,tT,.ret _ _ _ c3,.ret _ _ _ c4,tC (nt (@hH 4 w dst src base aa ai cc hm d0 d1 (rfl:true=true))),.cQ _ true (dQ d0 d1),.cg _ _ _ _ (@db m dst (gK 5 w (rg (ao.rl m) dst) (rg (ao.rl m) src)) ([.bool true,.bool false,.bool (aV (gK 5 w (rg (ao.rl m) dst) (rg (ao.rl m) src)) w==0),.bool (gW (gK 5 w (rg (ao.rl m) dst) (rg (ao.rl m) src)) w),.bool false,.int .u64 (eg m 4 w dst src base aa ai cc),.int .i8 4,.int .i8 w,.int .i8 dst,.int .i8 src,.int .i8 base,.int .i64 aa,.int .i64 ai,.int .i8 cc,.int .u64 ld]) d0 d1),tF]) (by kernel_rfl))
theorem C4:mR 5:=by
 intro m w dst src base aa ai cc ld d0 d1 s0 s1 b0 b1 hm hw
 have c0:= @aK 5 w dst src base aa ai cc (by decide)
 rw [hm] at c0
 have c1:= @b9 5 w dst src base aa ai cc (by decide)
 have c2:= @nI w (rg (ao.rl m) dst) (rg (ao.rl m) src) hw
 have c3:= @nz w (rg (ao.rl m) dst) (rg (ao.rl m) src) hw
 have c4:= @bq 5 w dst src base aa ai cc (by decide)
 exact (j9 (d:= .aC [(jW (m.at (u64 (m.pc+u64 (dJ 5 w dst src base aa ai cc)))) ⟨5,w,dst,src,base,aa,ai,cc⟩ ld).1.d,.int .i64 0]) ([.ret _ _ _ c0,tF,.ret _ _ _ c1,tT,.get qd 5 (.aq) rfl,tT,.inl,.inl,.aD [(4,.box (ao.cw m (eg m 5 w dst src base aa ai cc) (xT 5 w dst src base aa ai cc ld)))],.gn qc 5 (some (.int .i8 1)) rfl,.cQ _ true (dQ d0 d1),.get _ _ _ (@bL m dst ((fT m (eg m 5 w dst src base aa ai cc) (xT 5 w dst src base aa ai cc ld))) d0 d1),.inl]++Sx 24 tF++ [.cQ _ true (dQ s0 s1),.get _ _ _ (@bL m src ((fT m (eg m 5 w dst src base aa ai cc) (xT 5 w dst src base aa ai cc ld))) s0 s1),.aD [(4,.box (ao.cw m (eg m 5 w dst src base aa ai cc) (xT 5 w dst src base aa ai cc ld)))],.ret _ _ _ c2,tF,tF,tT,.ret _ _ _ c3,.ret _ _ _ c4,tC (nt (@hH 5 w dst src base aa ai cc hm d0 d1 (rfl:true=true))),.cQ _ true (dQ d0 d1),.cg _ _ _ _ (@db m dst (gK 1 w (rg (ao.rl m) dst) (rg (ao.rl m) src)) ([.bool true,.bool (Bk w (rg (ao.rl m) dst) (rg (ao.rl m) src)),.bool (aV (u64 (rg (ao.rl m) dst - rg (ao.rl m) src)) w==0),.bool (gW (u64 (rg (ao.rl m) dst - rg (ao.rl m) src)) w),.bool (Bi w (rg (ao.rl m) dst) (rg (ao.rl m) src)),.int .u64 (eg m 5 w dst src base aa ai cc),.int .i8 5,.int .i8 w,.int .i8 dst,.int .i8 src,.int .i8 base,.int .i64 aa,.int .i64 ai,.int .i8 cc,.int .u64 ld]) d0 d1),tF]) (by kernel_rfl))
theorem C3:mR 6:=by
 intro m w dst src base aa ai cc ld d0 d1 s0 s1 b0 b1 hm hw
 have c0:= @aK 6 w dst src base aa ai cc (by decide)
 rw [hm] at c0
 have c1:= @b9 6 w dst src base aa ai cc (by decide)
 have c2:= @tE w (rg (ao.rl m) dst) (rg (ao.rl m) src) hw
 have c3:= @jC w (gK 10 w (rg (ao.rl m) dst) (rg (ao.rl m) src)) hw
 have c4:= @bq 6 w dst src base aa ai cc (by decide)
 exact (j9 (d:= .aC [(jW (m.at (u64 (m.pc+u64 (dJ 6 w dst src base aa ai cc)))) ⟨6,w,dst,src,base,aa,ai,cc⟩ ld).1.d,.int .i64 0]) ([.ret _ _ _ c0,tF,.ret _ _ _ c1,tT,.get qd 6 (.aq) rfl,tT,.inl,.inl,.aD [(4,.box (ao.cw m (eg m 6 w dst src base aa ai cc) (xT 6 w dst src base aa ai cc ld)))],.gn qc 6 (some (.int .i8 10)) rfl,.cQ _ true (dQ d0 d1),.get _ _ _ (@bL m dst ((fT m (eg m 6 w dst src base aa ai cc) (xT 6 w dst src base aa ai cc ld))) d0 d1),.inl]++Sx 24 tF++ [.cQ _ true (dQ s0 s1),.get _ _ _ (@bL m src ((fT m (eg m 6 w dst src base aa ai cc) (xT 6 w dst src base aa ai cc ld))) s0 s1),.aD [(4,.box (ao.cw m (eg m 6 w dst src base aa ai cc) (xT 6 w dst src base aa ai cc ld)))],.ret _ _ _ c2,tF,tF,tF,tF,tF,tF,tT,.ret _ _ _ c3,.ret _ _ _ c4,tC (nt (@hH 6 w dst src base aa ai cc hm d0 d1 (rfl:true=true))),.cQ _ true (dQ d0 d1),.cg _ _ _ _ (@db m dst (gK 10 w (rg (ao.rl m) dst) (rg (ao.rl m) src)) ([.bool true,.bool false,.bool (aV (gK 10 w (rg (ao.rl m) dst) (rg (ao.rl m) src)) w==0),.bool (gW (gK 10 w (rg (ao.rl m) dst) (rg (ao.rl m) src)) w),.bool false,.int .u64 (eg m 6 w dst src base aa ai cc),.int .i8 6,.int .i8 w,.int .i8 dst,.int .i8 src,.int .i8 base,.int .i64 aa,.int .i64 ai,.int .i8 cc,.int .u64 ld]) d0 d1),tF]) (by kernel_rfl))
theorem C2:mR 7:=by
 intro m w dst src base aa ai cc ld d0 d1 s0 s1 b0 b1 hm hw
 have c0:= @aK 7 w dst src base aa ai cc (by decide)
 rw [hm] at c0
 have c1:= @b9 7 w dst src base aa ai cc (by decide)
 have c2:= @nI w (rg (ao.rl m) dst) (rg (ao.rl m) src) hw
 have c3:= @nz w (rg (ao.rl m) dst) (rg (ao.rl m) src) hw
 have c4:= @bq 7 w dst src base aa ai cc (by decide)
 exact (j9 (d:= .aC [(jW (m.at (u64 (m.pc+u64 (dJ 7 w dst src base aa ai cc)))) ⟨7,w,dst,src,base,aa,ai,cc⟩ ld).1.d,.int .i64 0]) ([.ret _ _ _ c0,tF,.ret _ _ _ c1,tT,.get qd 7 (.aq) rfl,tT,.inl,.inl,.aD [(4,.box (ao.cw m (eg m 7 w dst src base aa ai cc) (xT 7 w dst src base aa ai cc ld)))],.gn qc 7 (some (.int .i8 1)) rfl,.cQ _ true (dQ d0 d1),.get _ _ _ (@bL m dst ((fT m (eg m 7 w dst src base aa ai cc) (xT 7 w dst src base aa ai cc ld))) d0 d1),.inl]++Sx 24 tF++ [.cQ _ true (dQ s0 s1),.get _ _ _ (@bL m src ((fT m (eg m 7 w dst src base aa ai cc) (xT 7 w dst src base aa ai cc ld))) s0 s1),.aD [(4,.box (ao.cw m (eg m 7 w dst src base aa ai cc) (xT 7 w dst src base aa ai cc ld)))],.ret _ _ _ c2,tF,tF,tT,.ret _ _ _ c3,.ret _ _ _ c4,tC (nt (dx 0 true (eq_of_beq (@F9 7 w dst src base aa ai cc (rfl:false=false))))),tF]) (by kernel_rfl))
theorem C1:mR 8:=by
 intro m w dst src base aa ai cc ld d0 d1 s0 s1 b0 b1 hm hw
 have c0:= @aK 8 w dst src base aa ai cc (by decide)
 rw [hm] at c0
 have c1:= @b9 8 w dst src base aa ai cc (by decide)
 have c2:= @nH w (rg (ao.rl m) dst) (rg (ao.rl m) src) hw
 have c3:= @jC w (gK 5 w (rg (ao.rl m) dst) (rg (ao.rl m) src)) hw
 have c4:= @bq 8 w dst src base aa ai cc (by decide)
 exact (j9 (d:= .aC [(jW (m.at (u64 (m.pc+u64 (dJ 8 w dst src base aa ai cc)))) ⟨8,w,dst,src,base,aa,ai,cc⟩ ld).1.d,.int .i64 0]) ([.ret _ _ _ c0,tF,.ret _ _ _ c1,tT,.get qd 8 (.aq) rfl,tT,.inl,.inl,.aD [(4,.box (ao.cw m (eg m 8 w dst src base aa ai cc) (xT 8 w dst src base aa ai cc ld)))],.gn qc 8 (some (.int .i8 5)) rfl,.cQ _ true (dQ d0 d1),.get _ _ _ (@bL m dst ((fT m (eg m 8 w dst src base aa ai cc) (xT 8 w dst src base aa ai cc ld))) d0 d1),.inl]++Sx 24 tF++ [.cQ _ true (dQ s0 s1),.get _ _ _ (@bL m src ((fT m (eg m 8 w dst src base aa ai cc) (xT 8 w dst src base aa ai cc ld))) s0 s1),.aD [(4,.box (ao.cw m (eg m 8 w dst src base aa ai cc) (xT 8 w dst src base aa ai cc ld)))],.ret _ _ _ c2,tF,tF,tF,tF,tF,tT,tT,.ret _ _ _ c3,.ret _ _ _ c4,tC (nt (dx 0 true (eq_of_beq (@F9 8 w dst src base aa ai cc (rfl:false=false))))),tF]) (by kernel_rfl))
theorem zm:mR 12:=by
 intro m w dst src base aa ai cc ld d0 d1 s0 s1 b0 b1 hm hw
 have c0:= @aK 12 w dst src base aa ai cc (by decide)
 rw [hm] at c0
 have c1:= @b9 12 w dst src base aa ai cc (by decide)
 have c2:= @nI w (rg (ao.rl m) dst) (T8.wrap T8.u64 ai) hw
 have c3:= @nz w (rg (ao.rl m) dst) (T8.wrap T8.u64 ai) hw
 have c4:= @bq 12 w dst src base aa ai cc (by decide)
 exact (j9 (d:= .aC [(jW (m.at (u64 (m.pc+u64 (dJ 12 w dst src base aa ai cc)))) ⟨12,w,dst,src,base,aa,ai,cc⟩ ld).1.d,.int .i64 0]) ([.ret _ _ _ c0,tF,.ret _ _ _ c1,tT,.get qd 12 (.aq) rfl,tT,.inl,.inl,.aD [(4,.box (ao.cw m (eg m 12 w dst src base aa ai cc) (xT 12 w dst src base aa ai cc ld)))],.gn qc 12 (some (.int .i8 1)) rfl,.cQ _ true (dQ d0 d1),.get _ _ _ (@bL m dst ((fT m (eg m 12 w dst src base aa ai cc) (xT 12 w dst src base aa ai cc ld))) d0 d1),.inl]++Sx 8 tF++Sx 9 tT++ [.aD [(4,.box (ao.cw m (eg m 12 w dst src base aa ai cc) (xT 12 w dst src base aa ai cc ld)))],.ret _ _ _ c2,tF,tF,tT,.ret _ _ _ c3,.ret _ _ _ c4,tC (nt (@hH 12 w dst src base aa ai cc hm d0 d1 (rfl:true=true))),.cQ _ true (dQ d0 d1),.cg _ _ _ _ (@db m dst (gK 1 w (rg (ao.rl m) dst) (T8.wrap T8.u64 ai)) ([.bool true,.bool (Bk w (rg (ao.rl m) dst) (T8.wrap T8.u64 ai)),.bool (aV (u64 (rg (ao.rl m) dst - T8.wrap T8.u64 ai)) w==0),.bool (gW (u64 (rg (ao.rl m) dst - T8.wrap T8.u64 ai)) w),.bool (Bi w (rg (ao.rl m) dst) (T8.wrap T8.u64 ai)),.int .u64 (eg m 12 w dst src base aa ai cc),.int .i8 12,.int .i8 w,.int .i8 dst,.int .i8 src,.int .i8 base,.int .i64 aa,.int .i64 ai,.int .i8 cc,.int .u64 ld]) d0 d1),tF]) (by kernel_rfl))
def qb:List D:= [D.fn (SB 117) [.ptr false 4 0] [],D.fn (SB 118) [.ptr false 4 0] [],D.aq,D.aq,D.aq,D.aq,D.aq,D.aq,D.aq,D.aq,D.aq,D.aq,D.aq,D.aq,D.aq,D.aq,D.aq,D.aq,D.aq,D.aq,D.aq,D.aq,D.aq,D.aq,D.fn (SB 119) [.ptr false 4 0] [],D.fn (SB 120) [.ptr false 4 0] [],D.fn (SB 121) [.ptr false 4 0] [],D.fn (SB 122) [.ptr false 4 0] [],D.fn (SB 123) [.ptr false 4 0] [],D.fn (SB 124) [.ptr false 4 0] [],D.fn (SB 125) [.ptr false 4 0] [],D.fn (SB 126) [.ptr false 4 0] []]
def qa:List (Int×D):= [((2:Int),.int .i8 0),((9:Int),.int .i8 0),((3:Int),.int .i8 4),((10:Int),.int .i8 4),((4:Int),.int .i8 5),((11:Int),.int .i8 5),((8:Int),.int .i8 5),((15:Int),.int .i8 5),((5:Int),.int .i8 1),((12:Int),.int .i8 1),((7:Int),.int .i8 1),((14:Int),.int .i8 1),((6:Int),.int .i8 10),((13:Int),.int .i8 10),((16:Int),.int .i8 2),((17:Int),.int .i8 6),((20:Int),.int .i8 6),((18:Int),.int .i8 7),((21:Int),.int .i8 7),((19:Int),.int .i8 12),((22:Int),.int .i8 12),((23:Int),.int .i8 8)]
def mQ (Me:Int):Prop:= ∀(m:ao) (w dst src base aa ai cc ld:Int) (d0:0≤dst) (d1:dst≤15) (s0:0≤src) (s1:src≤15) (b0:0≤base) (b1:base≤15) (hm:ct Me w dst src base aa ai cc=true) (hw:bj w=true),aF Tryz.prog 83 ([m.d,xD Me w dst src base aa ai cc,.int .u64 ld]) (.aC [(jW (m.at (u64 (m.pc+u64 (dJ Me w dst src base aa ai cc)))) ⟨Me,w,dst,src,base,aa,ai,cc⟩ ld).1.d,.int .i64 0])
theorem zg:mQ 17:=by
 intro m w dst src base aa ai cc ld d0 d1 s0 s1 b0 b1 hm hw
 have c0:= @aK 17 w dst src base aa ai cc (by decide)
 rw [hm] at c0
 have c1:= @b9 17 w dst src base aa ai cc (by decide)
 have c2:= @xz w (rg (ao.rl m) dst) (T8.wrap T8.u64 ai) hw
 have c3:= @ck
 have c4:= @bq 17 w dst src base aa ai cc (by decide)
 exact (j9 (d:= .aC [(jW (m.at (u64 (m.pc+u64 (dJ 17 w dst src base aa ai cc)))) ⟨17,w,dst,src,base,aa,ai,cc⟩ ld).1.d,.int .i64 0]) ([.ret _ _ _ c0,tF,.ret _ _ _ c1,tT,.get qb 17 (.aq) rfl,tT,.inl,.inl,.aD [(4,.box (ao.cw m (eg m 17 w dst src base aa ai cc) (xT 17 w dst src base aa ai cc ld)))],.gn qa 17 (some (.int .i8 6)) rfl,.cQ _ true (dQ d0 d1),.get _ _ _ (@bL m dst ((fT m (eg m 17 w dst src base aa ai cc) (xT 17 w dst src base aa ai cc ld))) d0 d1),.inl]++Sx 8 tF++ [tT,tT,tT,tT,tT,tT,tT,tF]++Sx 8 tT++ [.aD [(4,.box (ao.cw m (eg m 17 w dst src base aa ai cc) (xT 17 w dst src base aa ai cc ld)))],.ret _ _ _ c2,tF,tF,tF,tF,tF,tF,tF,.ret _ _ _ c3,.ret _ _ _ c4,tC (nt (@hH 17 w dst src base aa ai cc hm d0 d1 (rfl:true=true))),.cQ _ true (dQ d0 d1),.cg _ _ _ _ (@db m dst (gK 6 w (rg (ao.rl m) dst) (T8.wrap T8.u64 ai)) ([.bool false,.bool false,.bool false,.bool false,.bool false,.int .u64 (eg m 17 w dst src base aa ai cc),.int .i8 17,.int .i8 w,.int .i8 dst,.int .i8 src,.int .i8 base,.int .i64 aa,.int .i64 ai,.int .i8 cc,.int .u64 ld]) d0 d1),tF]) (by kernel_rfl))
theorem zf:mQ 18:=by
 intro m w dst src base aa ai cc ld d0 d1 s0 s1 b0 b1 hm hw
 have c0:= @aK 18 w dst src base aa ai cc (by decide)
 rw [hm] at c0
 have c1:= @b9 18 w dst src base aa ai cc (by decide)
 have c2:= @xy w (rg (ao.rl m) dst) (T8.wrap T8.u64 ai) hw
 have c3:= @ck
 have c4:= @bq 18 w dst src base aa ai cc (by decide)
 exact (j9 (d:= .aC [(jW (m.at (u64 (m.pc+u64 (dJ 18 w dst src base aa ai cc)))) ⟨18,w,dst,src,base,aa,ai,cc⟩ ld).1.d,.int .i64 0]) ([.ret _ _ _ c0,tF,.ret _ _ _ c1,tT,.get qb 18 (.aq) rfl,tT,.inl,.inl,.aD [(4,.box (ao.cw m (eg m 18 w dst src base aa ai cc) (xT 18 w dst src base aa ai cc ld)))],.gn qa 18 (some (.int .i8 7)) rfl,.cQ _ true (dQ d0 d1),.get _ _ _ (@bL m dst ((fT m (eg m 18 w dst src base aa ai cc) (xT 18 w dst src base aa ai cc ld))) d0 d1),.inl]++Sx 8 tF++ [tT,tT,tT,tT,tT,tT,tT,tF]++Sx 8 tT++ [.aD [(4,.box (ao.cw m (eg m 18 w dst src base aa ai cc) (xT 18 w dst src base aa ai cc ld)))],.ret _ _ _ c2,tF,tF,tF,tF,tF,tF,tF,.ret _ _ _ c3,.ret _ _ _ c4,tC (nt (@hH 18 w dst src base aa ai cc hm d0 d1 (rfl:true=true))),.cQ _ true (dQ d0 d1),.cg _ _ _ _ (@db m dst (gK 7 w (rg (ao.rl m) dst) (T8.wrap T8.u64 ai)) ([.bool false,.bool false,.bool false,.bool false,.bool false,.int .u64 (eg m 18 w dst src base aa ai cc),.int .i8 18,.int .i8 w,.int .i8 dst,.int .i8 src,.int .i8 base,.int .i64 aa,.int .i64 ai,.int .i8 cc,.int .u64 ld]) d0 d1),tF]) (by kernel_rfl))
theorem ze:mQ 19:=by
 intro m w dst src base aa ai cc ld d0 d1 s0 s1 b0 b1 hm hw
 have c0:= @aK 19 w dst src base aa ai cc (by decide)
 rw [hm] at c0
 have c1:= @b9 19 w dst src base aa ai cc (by decide)
 have c2:= @tD w (rg (ao.rl m) dst) (T8.wrap T8.u64 ai) hw
 have c3:= @ck
 have c4:= @bq 19 w dst src base aa ai cc (by decide)
 exact (j9 (d:= .aC [(jW (m.at (u64 (m.pc+u64 (dJ 19 w dst src base aa ai cc)))) ⟨19,w,dst,src,base,aa,ai,cc⟩ ld).1.d,.int .i64 0]) ([.ret _ _ _ c0,tF,.ret _ _ _ c1,tT,.get qb 19 (.aq) rfl,tT,.inl,.inl,.aD [(4,.box (ao.cw m (eg m 19 w dst src base aa ai cc) (xT 19 w dst src base aa ai cc ld)))],.gn qa 19 (some (.int .i8 12)) rfl,.cQ _ true (dQ d0 d1),.get _ _ _ (@bL m dst ((fT m (eg m 19 w dst src base aa ai cc) (xT 19 w dst src base aa ai cc ld))) d0 d1),.inl]++Sx 8 tF++ [tT,tT,tT,tT,tT,tT,tT,tF]++Sx 8 tT++ [.aD [(4,.box (ao.cw m (eg m 19 w dst src base aa ai cc) (xT 19 w dst src base aa ai cc ld)))],.ret _ _ _ c2,tF,tF,tF,tF,tF,tF,tF,.ret _ _ _ c3,.ret _ _ _ c4,tC (nt (@hH 19 w dst src base aa ai cc hm d0 d1 (rfl:true=true))),.cQ _ true (dQ d0 d1),.cg _ _ _ _ (@db m dst (gK 12 w (rg (ao.rl m) dst) (T8.wrap T8.u64 ai)) ([.bool false,.bool false,.bool false,.bool false,.bool false,.int .u64 (eg m 19 w dst src base aa ai cc),.int .i8 19,.int .i8 w,.int .i8 dst,.int .i8 src,.int .i8 base,.int .i64 aa,.int .i64 ai,.int .i8 cc,.int .u64 ld]) d0 d1),tF]) (by kernel_rfl))
theorem zb:mQ 20:=by
 intro m w dst src base aa ai cc ld d0 d1 s0 s1 b0 b1 hm hw
 have c0:= @aK 20 w dst src base aa ai cc (by decide)
 rw [hm] at c0
 have c1:= @b9 20 w dst src base aa ai cc (by decide)
 have c2:= @xz w (rg (ao.rl m) dst) (ao.q1 m) hw
 have c3:= @ck
 have c4:= @bq 20 w dst src base aa ai cc (by decide)
 exact (j9 (d:= .aC [(jW (m.at (u64 (m.pc+u64 (dJ 20 w dst src base aa ai cc)))) ⟨20,w,dst,src,base,aa,ai,cc⟩ ld).1.d,.int .i64 0]) ([.ret _ _ _ c0,tF,.ret _ _ _ c1,tT,.get qb 20 (.aq) rfl,tT,.inl,.inl,.aD [(4,.box (ao.cw m (eg m 20 w dst src base aa ai cc) (xT 20 w dst src base aa ai cc ld)))],.gn qa 20 (some (.int .i8 6)) rfl,.cQ _ true (dQ d0 d1),.get _ _ _ (@bL m dst ((fT m (eg m 20 w dst src base aa ai cc) (xT 20 w dst src base aa ai cc ld))) d0 d1),.inl]++Sx 8 tT++ [.aD [(4,.box (ao.cw m (eg m 20 w dst src base aa ai cc) (xT 20 w dst src base aa ai cc ld)))],.ret _ _ _ c2,tF,tF,tF,tF,tF,tF,tF,.ret _ _ _ c3,.ret _ _ _ c4,tC (nt (@hH 20 w dst src base aa ai cc hm d0 d1 (rfl:true=true))),.cQ _ true (dQ d0 d1),.cg _ _ _ _ (@db m dst (gK 6 w (rg (ao.rl m) dst) (ao.q1 m)) ([.bool false,.bool false,.bool false,.bool false,.bool false,.int .u64 (eg m 20 w dst src base aa ai cc),.int .i8 20,.int .i8 w,.int .i8 dst,.int .i8 src,.int .i8 base,.int .i64 aa,.int .i64 ai,.int .i8 cc,.int .u64 ld]) d0 d1),tF]) (by kernel_rfl))
theorem za:mQ 21:=by
 intro m w dst src base aa ai cc ld d0 d1 s0 s1 b0 b1 hm hw
 have c0:= @aK 21 w dst src base aa ai cc (by decide)
 rw [hm] at c0
 have c1:= @b9 21 w dst src base aa ai cc (by decide)
 have c2:= @xy w (rg (ao.rl m) dst) (ao.q1 m) hw
 have c3:= @ck
 have c4:= @bq 21 w dst src base aa ai cc (by decide)
 exact (j9 (d:= .aC [(jW (m.at (u64 (m.pc+u64 (dJ 21 w dst src base aa ai cc)))) ⟨21,w,dst,src,base,aa,ai,cc⟩ ld).1.d,.int .i64 0]) ([.ret _ _ _ c0,tF,.ret _ _ _ c1,tT,.get qb 21 (.aq) rfl,tT,.inl,.inl,.aD [(4,.box (ao.cw m (eg m 21 w dst src base aa ai cc) (xT 21 w dst src base aa ai cc ld)))],.gn qa 21 (some (.int .i8 7)) rfl,.cQ _ true (dQ d0 d1),.get _ _ _ (@bL m dst ((fT m (eg m 21 w dst src base aa ai cc) (xT 21 w dst src base aa ai cc ld))) d0 d1),.inl]++Sx 8 tT++ [.aD [(4,.box (ao.cw m (eg m 21 w dst src base aa ai cc) (xT 21 w dst src base aa ai cc ld)))],.ret _ _ _ c2,tF,tF,tF,tF,tF,tF,tF,.ret _ _ _ c3,.ret _ _ _ c4,tC (nt (@hH 21 w dst src base aa ai cc hm d0 d1 (rfl:true=true))),.cQ _ true (dQ d0 d1),.cg _ _ _ _ (@db m dst (gK 7 w (rg (ao.rl m) dst) (ao.q1 m)) ([.bool false,.bool false,.bool false,.bool false,.bool false,.int .u64 (eg m 21 w dst src base aa ai cc),.int .i8 21,.int .i8 w,.int .i8 dst,.int .i8 src,.int .i8 base,.int .i64 aa,.int .i64 ai,.int .i8 cc,.int .u64 ld]) d0 d1),tF]) (by kernel_rfl))
theorem y9:mQ 22:=by
 intro m w dst src base aa ai cc ld d0 d1 s0 s1 b0 b1 hm hw
 have c0:= @aK 22 w dst src base aa ai cc (by decide)
 rw [hm] at c0
 have c1:= @b9 22 w dst src base aa ai cc (by decide)
 have c2:= @tD w (rg (ao.rl m) dst) (ao.q1 m) hw
 have c3:= @ck
 have c4:= @bq 22 w dst src base aa ai cc (by decide)
 exact (j9 (d:= .aC [(jW (m.at (u64 (m.pc+u64 (dJ 22 w dst src base aa ai cc)))) ⟨22,w,dst,src,base,aa,ai,cc⟩ ld).1.d,.int .i64 0]) ([.ret _ _ _ c0,tF,.ret _ _ _ c1,tT,.get qb 22 (.aq) rfl,tT,.inl,.inl,.aD [(4,.box (ao.cw m (eg m 22 w dst src base aa ai cc) (xT 22 w dst src base aa ai cc ld)))],.gn qa 22 (some (.int .i8 12)) rfl,.cQ _ true (dQ d0 d1),.get _ _ _ (@bL m dst ((fT m (eg m 22 w dst src base aa ai cc) (xT 22 w dst src base aa ai cc ld))) d0 d1),.inl]++Sx 8 tT++ [.aD [(4,.box (ao.cw m (eg m 22 w dst src base aa ai cc) (xT 22 w dst src base aa ai cc ld)))],.ret _ _ _ c2,tF,tF,tF,tF,tF,tF,tF,.ret _ _ _ c3,.ret _ _ _ c4,tC (nt (@hH 22 w dst src base aa ai cc hm d0 d1 (rfl:true=true))),.cQ _ true (dQ d0 d1),.cg _ _ _ _ (@db m dst (gK 12 w (rg (ao.rl m) dst) (ao.q1 m)) ([.bool false,.bool false,.bool false,.bool false,.bool false,.int .u64 (eg m 22 w dst src base aa ai cc),.int .i8 22,.int .i8 w,.int .i8 dst,.int .i8 src,.int .i8 base,.int .i64 aa,.int .i64 ai,.int .i8 cc,.int .u64 ld]) d0 d1),tF]) (by kernel_rfl))
theorem y8:mQ 23:=by
 intro m w dst src base aa ai cc ld d0 d1 s0 s1 b0 b1 hm hw
 have c0:= @aK 23 w dst src base aa ai cc (by decide)
 rw [hm] at c0
 have c1:= @b9 23 w dst src base aa ai cc (by decide)
 have c2:= @FM w (rg (ao.rl m) dst) (rg (ao.rl m) src) hw
 have c3:= @nz w 0 (rg (ao.rl m) dst) hw
 have c4:= @bq 23 w dst src base aa ai cc (by decide)
 exact (j9 (d:= .aC [(jW (m.at (u64 (m.pc+u64 (dJ 23 w dst src base aa ai cc)))) ⟨23,w,dst,src,base,aa,ai,cc⟩ ld).1.d,.int .i64 0]) ([.ret _ _ _ c0,tF,.ret _ _ _ c1,tT,.get qb 23 (.aq) rfl,tT,.inl,.inl,.aD [(4,.box (ao.cw m (eg m 23 w dst src base aa ai cc) (xT 23 w dst src base aa ai cc ld)))],.gn qa 23 (some (.int .i8 8)) rfl,.cQ _ true (dQ d0 d1),.get _ _ _ (@bL m dst ((fT m (eg m 23 w dst src base aa ai cc) (xT 23 w dst src base aa ai cc ld))) d0 d1),.inl,tT,tT,tT,tT,tT,tT,tT,tF,tT,tT,tT,tT,tT,tT,tT,tF,tT,tT,tT,tT,tT,tT,tT,tF,.cQ _ true (dQ s0 s1),.get _ _ _ (@bL m src ((fT m (eg m 23 w dst src base aa ai cc) (xT 23 w dst src base aa ai cc ld))) s0 s1),.aD [(4,.box (ao.cw m (eg m 23 w dst src base aa ai cc) (xT 23 w dst src base aa ai cc ld)))],.ret _ _ _ c2,tF,tF,tF,tT,.ret _ _ _ c3,.ret _ _ _ c4,tC (nt (@hH 23 w dst src base aa ai cc hm d0 d1 (rfl:true=true))),.cQ _ true (dQ d0 d1),.cg _ _ _ _ (@db m dst (gK 8 w (rg (ao.rl m) dst) (rg (ao.rl m) src)) ([.bool true,.bool (Bk w 0 (rg (ao.rl m) dst)),.bool (aV (u64 (0 - rg (ao.rl m) dst)) w==0),.bool (gW (u64 (0 - rg (ao.rl m) dst)) w),.bool (Bi w 0 (rg (ao.rl m) dst)),.int .u64 (eg m 23 w dst src base aa ai cc),.int .i8 23,.int .i8 w,.int .i8 dst,.int .i8 src,.int .i8 base,.int .i64 aa,.int .i64 ai,.int .i8 cc,.int .u64 ld]) d0 d1)]++ [tF]) (by kernel_rfl))
def pY:List D:= [D.fn (SB 117) [.ptr false 4 0] [],D.fn (SB 118) [.ptr false 4 0] [],D.aq,D.aq,D.aq,D.aq,D.aq,D.aq,D.aq,D.aq,D.aq,D.aq,D.aq,D.aq,D.aq,D.aq,D.aq,D.aq,D.aq,D.aq,D.aq,D.aq,D.aq,D.aq,D.fn (SB 119) [.ptr false 4 0] [],D.fn (SB 120) [.ptr false 4 0] [],D.fn (SB 121) [.ptr false 4 0] [],D.fn (SB 122) [.ptr false 4 0] [],D.fn (SB 123) [.ptr false 4 0] [],D.fn (SB 124) [.ptr false 4 0] [],D.fn (SB 125) [.ptr false 4 0] [],D.fn (SB 126) [.ptr false 4 0] []]
def mP (Me:Int):Prop:= ∀(m:ao) (w dst src base aa ai cc ld:Int) (d0:0≤dst) (d1:dst≤15) (s0:0≤src) (s1:src≤15) (b0:0≤base) (b1:base≤15) (hm:ct Me w dst src base aa ai cc=true),aF Tryz.prog 83 ([m.d,xD Me w dst src base aa ai cc,.int .u64 ld]) (.aC [(jW (m.at (u64 (m.pc+u64 (dJ Me w dst src base aa ai cc)))) ⟨Me,w,dst,src,base,aa,ai,cc⟩ ld).1.d,.int .i64 0])
theorem C9:mP 0:=by
 intro m w dst src base aa ai cc ld d0 d1 s0 s1 b0 b1 hm
 have c0:= @aK 0 w dst src base aa ai cc (by decide)
 rw [show (ct 0 w dst src base aa ai cc)=true from hm] at c0
 have c1:= @b9 0 w dst src base aa ai cc (by decide)
 have c2:= @bP (rg (ao.rl m) src) w
 exact (j9 (d:= .aC [(jW (m.at (u64 (m.pc+u64 (dJ 0 w dst src base aa ai cc)))) ⟨0,w,dst,src,base,aa,ai,cc⟩ ld).1.d,.int .i64 0]) [.ret _ _ _ c0,tF,.ret _ _ _ c1,tT,.get pY 0 (D.fn (SB 117) [.ptr false 4 0] []) rfl,tF,.inl,.cQ _ true (dQ s0 s1),.get _ _ _ (@bL m src ((fT m (eg m 0 w dst src base aa ai cc) (xT 0 w dst src base aa ai cc ld))) s0 s1),.inl,.ret _ _ _ c2,.cQ _ true (dQ d0 d1),.cg _ _ _ _ (@db m dst (aV (rg (ao.rl m) src) w) ((fT m (eg m 0 w dst src base aa ai cc) (xT 0 w dst src base aa ai cc ld))) d0 d1),tF] (by kernel_rfl))
theorem C8:mP 1:=by
 intro m w dst src base aa ai cc ld d0 d1 s0 s1 b0 b1 hm
 have c0:= @aK 1 w dst src base aa ai cc (by decide)
 rw [show (ct 1 w dst src base aa ai cc)=true from hm] at c0
 have c1:= @b9 1 w dst src base aa ai cc (by decide)
 have c2:= @bP (T8.wrap T8.u64 ai) w
 exact (j9 (d:= .aC [(jW (m.at (u64 (m.pc+u64 (dJ 1 w dst src base aa ai cc)))) ⟨1,w,dst,src,base,aa,ai,cc⟩ ld).1.d,.int .i64 0]) [.ret _ _ _ c0,tF,.ret _ _ _ c1,tT,.get pY 1 (D.fn (SB 118) [.ptr false 4 0] []) rfl,tF,.inl,.inl,.ret _ _ _ c2,.cQ _ true (dQ d0 d1),.cg _ _ _ _ (@db m dst (aV (T8.wrap T8.u64 ai) w) ((fT m (eg m 1 w dst src base aa ai cc) (xT 1 w dst src base aa ai cc ld))) d0 d1),tF] (by kernel_rfl))
theorem yZ:mP 26:=by
 intro m w dst src base aa ai cc ld d0 d1 s0 s1 b0 b1 hm
 have c0:= @aK 26 w dst src base aa ai cc (by decide)
 rw [show (ct 26 w dst src base aa ai cc)=true from hm] at c0
 have c1:= @b9 26 w dst src base aa ai cc (by decide)
 have c2:= @bP ld w
 exact (j9 (d:= .aC [(jW (m.at (u64 (m.pc+u64 (dJ 26 w dst src base aa ai cc)))) ⟨26,w,dst,src,base,aa,ai,cc⟩ ld).1.d,.int .i64 0]) [.ret _ _ _ c0,tF,.ret _ _ _ c1,tT,.get pY 26 (D.fn (SB 121) [.ptr false 4 0] []) rfl,tF,.inl,.inl,.ret _ _ _ c2,.cQ _ true (dQ d0 d1),.cg _ _ _ _ (@db m dst (aV ld w) ((fT m (eg m 26 w dst src base aa ai cc) (xT 26 w dst src base aa ai cc ld))) d0 d1),tF] (by kernel_rfl))
theorem yY:mP 27:=by
 intro m w dst src base aa ai cc ld d0 d1 s0 s1 b0 b1 hm
 have c0:= @aK 27 w dst src base aa ai cc (by decide)
 rw [show (ct 27 w dst src base aa ai cc)=true from hm] at c0
 have c1:= @b9 27 w dst src base aa ai cc (by decide)
 exact (j9 (d:= .aC [(jW (m.at (u64 (m.pc+u64 (dJ 27 w dst src base aa ai cc)))) ⟨27,w,dst,src,base,aa,ai,cc⟩ ld).1.d,.int .i64 0]) [.ret _ _ _ c0,tF,.ret _ _ _ c1,tT,.get pY 27 (D.fn (SB 122) [.ptr false 4 0] []) rfl,tF,.inl,tF] (by kernel_rfl))
theorem yX:mP 28:=by
 intro m w dst src base aa ai cc ld d0 d1 s0 s1 b0 b1 hm
 have c0:= @aK 28 w dst src base aa ai cc (by decide)
 rw [show (ct 28 w dst src base aa ai cc)=true from hm] at c0
 have c1:= @b9 28 w dst src base aa ai cc (by decide)
 exact (j9 (d:= .aC [(jW (m.at (u64 (m.pc+u64 (dJ 28 w dst src base aa ai cc)))) ⟨28,w,dst,src,base,aa,ai,cc⟩ ld).1.d,.int .i64 0]) [.ret _ _ _ c0,tF,.ret _ _ _ c1,tT,.get pY 28 (D.fn (SB 123) [.ptr false 4 0] []) rfl,tF,.inl,tF] (by kernel_rfl))
theorem yV:mP 30:=by
 intro m w dst src base aa ai cc ld d0 d1 s0 s1 b0 b1 hm
 have c0:= @aK 30 w dst src base aa ai cc (by decide)
 rw [show (ct 30 w dst src base aa ai cc)=true from hm] at c0
 have c1:= @b9 30 w dst src base aa ai cc (by decide)
 exact (j9 (d:= .aC [(jW (m.at (u64 (m.pc+u64 (dJ 30 w dst src base aa ai cc)))) ⟨30,w,dst,src,base,aa,ai,cc⟩ ld).1.d,.int .i64 0]) [.ret _ _ _ c0,tF,.ret _ _ _ c1,tT,.get pY 30 (D.fn (SB 125) [.ptr false 4 0] []) rfl,tF,.inl,tF] (by kernel_rfl))
theorem yU:mP 31:=by
 intro m w dst src base aa ai cc ld d0 d1 s0 s1 b0 b1 hm
 have c0:= @aK 31 w dst src base aa ai cc (by decide)
 rw [show (ct 31 w dst src base aa ai cc)=true from hm] at c0
 have c1:= @b9 31 w dst src base aa ai cc (by decide)
 exact (j9 (d:= .aC [(jW (m.at (u64 (m.pc+u64 (dJ 31 w dst src base aa ai cc)))) ⟨31,w,dst,src,base,aa,ai,cc⟩ ld).1.d,.int .i64 0]) [.ret _ _ _ c0,tF,.ret _ _ _ c1,tT,.get pY 31 (D.fn (SB 126) [.ptr false 4 0] []) rfl,tF,.inl,tF] (by kernel_rfl))
end Go.Proofs.YtbfpahigdpigpaaGreat
