import Derived.Test.YtbfpahigdpigpaaGreatC05
open List renaming replicate→Sx,length→SA,length_cons→SX,nil_append→S0,length_nil→S3,drop→Tv
open BitVec renaming ofInt→Sy,toNat→SF
open Int renaming toNat→Sz,fdiv→SJ
open And renaming intro→S7
open Or renaming inl→Tt
open Go renaming IntKind→T8
/- Contracts and plain laws that a statement's proof leans on (texts merged:MdM,Az,XP0,XP1,XP1A,XP2,XP2A). -/
set_option linter.unusedVariables false
set_option linter.unusedSimpArgs false
set_option maxRecDepth 100000
set_option maxHeartbeats 8000000
namespace Go.Ev
open Go
def u64 (n:Int):Int:=T8.u64.wrap n
def aV (v w:Int):Int:=if w=8 then v%256 else if w=16 then v%65536 else if w=32 then v%4294967296 else v
def mn (v w:Int):Int:=
  if w=8 then u64 (T8.i8.wrap v) else if w=16 then u64 (T8.i16.wrap v) else if w=32 then u64 (T8.i32.wrap v) else v
def gW (v w:Int):Bool:=decide (T8.i64.wrap (mn v w)<0)
def vV (a b:Int):Int:=u64 ((Sy 64 a^^^Sy 64 b).toNat:Int)
def vO (a b:Int):Int:=u64 ((Sy 64 a&&&Sy 64 b).toNat:Int)
def Jt (a b:Int):Int:=u64 ((Sy 64 a|||Sy 64 b).toNat:Int)
def fD (k c z s o:Bool):D:= .agg [.bool k,.bool c,.bool z,.bool s,.bool o]
def Lr (b w:Int):Int:=vO b (u64 (T8.i8.wrap (w - 1)))
def sg (op a b RG w:Int):Int:=
  if op=0 then u64 (a+b)
  else if op=1 then u64 (a - b)
  else if op=2 then u64 (a*b)
  else if op=3 then (if b=0 then 0 else u64 (a.tdiv b))
  else if op=4 then Jt a b
  else if op=5 then vO a b
  else if op=6 then u64 (a*2^(min RG.toNat 64))
  else if op=7 then a.fdiv (2^(min RG.toNat 64))
  else if op=8 then u64 (0 - a)
  else if op=9 then (if b=0 then a else a.tmod b)
  else if op=10 then vV a b
  else if op=11 then b
  else u64 ((T8.i64.wrap (mn a w)).fdiv (2^(min RG.toNat 64)))
def gK (op w a b:Int):Int:=aV (sg op (aV a w) (aV b w) (Lr (aV b w) w) w) w
theorem KV {x c:Int} {v:Bool} (h:(x==c)=v):decide (x≠c)= !v:=by
 rw [← h];by_cases e:x=c<;>simp [e]
def rg (l:List Int) (i:Int):Int:=l.getD i.toNat 0
def st (j i v r:Int):Int:=if i=j then v else r
theorem dQ {i:Int} (h0:0≤i) (h1:i≤15):decide ((0:Int)≤i∧i<((16:Nat):Int))=true:=by
 rw [decide_eq_true_eq];omega
def Lc (i v r0 r1 r2 r3 r4 r5 r6 r7 r8 r9 Qm Mf Ny Qu Ns NF:Int) (tl:List D):List D:= .int .u64 (st 0 i v r0):: .int .u64 (st 1 i v r1):: .int .u64 (st 2 i v r2):: .int .u64 (st 3 i v r3):: .int .u64 (st 4 i v r4):: .int .u64 (st 5 i v r5):: .int .u64 (st 6 i v r6):: .int .u64 (st 7 i v r7):: .int .u64 (st 8 i v r8):: .int .u64 (st 9 i v r9):: .int .u64 (st 10 i v Qm):: .int .u64 (st 11 i v Mf):: .int .u64 (st 12 i v Ny):: .int .u64 (st 13 i v Qu):: .int .u64 (st 14 i v Ns):: .int .u64 (st 15 i v NF)::tl
abbrev uu:D:= .undef
abbrev A2 (l:List D) (i:Nat) (xs l':List D):Prop:=l.take i++(xs++l.drop (i+xs.length))=l'∧i+xs.length≤l.length
abbrev hB (l:List D) (i n:Nat) (l':List D):Prop:=(l.drop i).take n=l'∧i+n≤l.length
section
variable {r0 r1 r2 r3 r4 r5 r6 r7 r8 r9 Qm Mf Ny Qu Ns NF i v:Int} {tl:List D}
theorem lW (h0:0≤i) (h1:i≤15):(D.int .u64 r0::D.int .u64 r1::D.int .u64 r2::D.int .u64 r3::D.int .u64 r4::D.int .u64 r5::D.int .u64 r6::D.int .u64 r7::D.int .u64 r8::D.int .u64 r9::D.int .u64 Qm::D.int .u64 Mf::D.int .u64 Ny::D.int .u64 Qu::D.int .u64 Ns::D.int .u64 NF::tl:List D)[0+i.toNat*1]? =
  some (.int .u64 (rg [r0,r1,r2,r3,r4,r5,r6,r7,r8,r9,Qm,Mf,Ny,Qu,Ns,NF] i)):=by
 obtain ⟨n,rfl⟩:=gY h0 h1
 have:n.val=0∨n.val=1∨n.val=2∨n.val=3∨n.val=4∨n.val=5∨n.val=6∨n.val=7∨n.val=8∨n.val=9∨n.val=10∨n.val=11∨n.val=12∨n.val=13∨n.val=14∨n.val=15:=by omega
 rcases this with e|e|e|e|e|e|e|e|e|e|e|e|e|e|e|e<;>rw [e]<;>rfl
theorem uG (h0:0≤i) (h1:i≤15):A2 (D.int .u64 r0::D.int .u64 r1::D.int .u64 r2::D.int .u64 r3::D.int .u64 r4::D.int .u64 r5::D.int .u64 r6::D.int .u64 r7::D.int .u64 r8::D.int .u64 r9::D.int .u64 Qm::D.int .u64 Mf::D.int .u64 Ny::D.int .u64 Qu::D.int .u64 Ns::D.int .u64 NF::tl:List D) (0+i.toNat*1) [D.int .u64 v]
  (D.int .u64 (st 0 i v r0)::D.int .u64 (st 1 i v r1)::D.int .u64 (st 2 i v r2)::D.int .u64 (st 3 i v r3)::D.int .u64 (st 4 i v r4)::D.int .u64 (st 5 i v r5)::D.int .u64 (st 6 i v r6)::D.int .u64 (st 7 i v r7)::D.int .u64 (st 8 i v r8)::D.int .u64 (st 9 i v r9)::D.int .u64 (st 10 i v Qm)::D.int .u64 (st 11 i v Mf)::D.int .u64 (st 12 i v Ny)::D.int .u64 (st 13 i v Qu)::D.int .u64 (st 14 i v Ns)::D.int .u64 (st 15 i v NF)::tl):=by
 obtain ⟨n,rfl⟩:=gY h0 h1
 have:n.val=0∨n.val=1∨n.val=2∨n.val=3∨n.val=4∨n.val=5∨n.val=6∨n.val=7∨n.val=8∨n.val=9∨n.val=10∨n.val=11∨n.val=12∨n.val=13∨n.val=14∨n.val=15:=by omega
 rcases this with e|e|e|e|e|e|e|e|e|e|e|e|e|e|e|e<;>rw [e]<;>refine ⟨rfl,by simp⟩
end
end Go.Ev
namespace Go.Proofs.YtbfpahigdpigpaaGreat
open Go Go.Ev
abbrev EL:=List (Ev Tryz.prog)
theorem ef (b:Bool):b=true∨b=false:=Bool.eq_false_or_eq_true b
theorem cP:(∀ {p:Prop} [Decidable p],(decide p=true)=p)∧(∀ {p:Prop} [Decidable p],(decide p=false)↔ ¬p)∧(∀(b:Bool),(¬(b=true))=(b=false))∧(∀ {α:Type} [BEq α] [LawfulBEq α] {a b:α},(a==b)=true↔a=b)∧(∀ {α:Type} [BEq α] [LawfulBEq α] {a b:α},(a==b)=false↔a≠b)∧(∀(a b:Bool),(D.bool a=D.bool b)=(a=b)):=⟨@decide_eq_true_eq,@decide_eq_false_iff_not,@Bool.not_eq_true,@beq_iff_eq,@beq_eq_false_iff_ne,@D.bool.injEq⟩
theorem dX:(∀n:Int,T8.i8.wrap n=(n+128)%256 - 128)∧(∀n:Int,T8.u8.wrap n=n%256)∧(∀n:Int,T8.i64.wrap n=(n+9223372036854775808)%18446744073709551616 - 9223372036854775808)∧(∀n:Int,T8.u64.wrap n=n%18446744073709551616)∧(∀ {p:Prop} [Decidable p],(decide p=true)=p)∧(∀ {p:Prop} [Decidable p],(decide p=false)↔ ¬p)∧(∀ {α:Type} [BEq α] [LawfulBEq α] {a b:α},(a==b)=true↔a=b)∧(∀ {α:Type} [BEq α] [LawfulBEq α] {a b:α},(a !=b)=true↔a≠b)∧(∀ {α:Type} [BEq α] [LawfulBEq α] {a b:α},(a==b)=false↔a≠b)∧(∀ {α:Type} [BEq α] [LawfulBEq α] {a b:α},(a !=b)=false↔a=b)∧(∀(b:Bool),((!b)=true)=(b=false))∧(∀(b:Bool),((!b)=false)=(b=true))∧(∀(a b:Bool),((a&&b)=true)=(a=true∧b=true))∧(∀(a b:Bool),((a||b)=true)=(a=true∨b=true)):=⟨@kK,@dD,@cD,@dR,@decide_eq_true_eq,@decide_eq_false_iff_not,@beq_iff_eq,@bne_iff_ne,@beq_eq_false_iff_ne,@bne_eq_false_iff_eq,@Bool.not_eq_true',@Bool.not_eq_false',@Bool.and_eq_true,@Bool.or_eq_true⟩
def OE (n:Nat) (f:Func):Prop:= ∀ {x:List D} {d:D} (o:EL),vv Tryz.prog f x o=some (d,qn o True)→aF Tryz.prog n x d
theorem o0:OE 0 Tryz.f0:=aF.ab mixed Tryz.func0 (by kernel_rfl)
theorem o1:OE 1 Tryz.f1:=aF.ab mixed Tryz.func1 (by kernel_rfl)
theorem o2:OE 2 Tryz.f2:=aF.ab mixed Tryz.func2 (by kernel_rfl)
theorem o3:OE 3 Tryz.f3:=aF.ab mixed Tryz.func3 (by kernel_rfl)
theorem o4:OE 4 Tryz.f4:=aF.ab mixed Tryz.func4 (by kernel_rfl)
theorem o5:OE 5 Tryz.f5:=aF.ab mixed Tryz.func5 (by kernel_rfl)
theorem o8:OE 8 Tryz.f8:=aF.ab mixed Tryz.func8 (by kernel_rfl)
theorem o9:OE 9 Tryz.f9:=aF.ab mixed Tryz.func9 (by kernel_rfl)
theorem mD:OE 10 Tryz.f10:=aF.ab mixed Tryz.func10 (by kernel_rfl)
theorem ka:OE 11 Tryz.f11:=aF.ab mixed Tryz.func11 (by kernel_rfl)
theorem aG:OE 12 Tryz.f12:=aF.ab mixed Tryz.func12 (by kernel_rfl)
theorem aJ:OE 13 Tryz.f13:=aF.ab mixed Tryz.func13 (by kernel_rfl)
theorem aI:OE 14 Tryz.f14:=aF.ab mixed Tryz.func14 (by kernel_rfl)
theorem aH:OE 15 Tryz.f15:=aF.ab mixed Tryz.func15 (by kernel_rfl)
theorem HF:OE 16 Tryz.f16:=aF.ab mixed Tryz.func16 (by kernel_rfl)
theorem wO:OE 17 Tryz.f17:=aF.ab mixed Tryz.func17 (by kernel_rfl)
theorem mC:OE 24 Tryz.f24:=aF.ab mixed Tryz.func24 (by kernel_rfl)
theorem pn:OE 26 Tryz.f26:=aF.ab mixed Tryz.func26 (by kernel_rfl)
theorem pF:OE 27 Tryz.f27:=aF.ab mixed Tryz.func27 (by kernel_rfl)
theorem mr:OE 30 Tryz.f30:=aF.ab mixed Tryz.func30 (by kernel_rfl)
theorem wN:OE 31 Tryz.f31:=aF.ab mixed Tryz.func31 (by kernel_rfl)
theorem js:OE 43 Tryz.f43:=aF.ab mixed Tryz.func43 (by kernel_rfl)
theorem dj:OE 72 Tryz.f72:=aF.ab mixed Tryz.func72 (by kernel_rfl)
theorem lQ:OE 73 Tryz.f73:=aF.ab mixed Tryz.func73 (by kernel_rfl)
theorem Jc:OE 75 Tryz.f75:=aF.ab mixed Tryz.func75 (by kernel_rfl)
theorem Lg:OE 76 Tryz.f76:=aF.ab mixed Tryz.func76 (by kernel_rfl)
theorem Lf:OE 77 Tryz.f77:=aF.ab mixed Tryz.func77 (by kernel_rfl)
theorem j9:OE 83 Tryz.f83:=aF.ab mixed Tryz.func83 (by kernel_rfl)
theorem hG:OE 98 Tryz.f98:=aF.ab mixed Tryz.func98 (by kernel_rfl)
theorem KU:OE 99 Tryz.f99:=aF.ab mixed Tryz.func99 (by kernel_rfl)
theorem JB:OE 100 Tryz.f100:=aF.ab mixed Tryz.func100 (by kernel_rfl)
theorem GV:OE 101 Tryz.f101:=aF.ab mixed Tryz.func101 (by kernel_rfl)
theorem ES:OE 102 Tryz.f102:=aF.ab mixed Tryz.func102 (by kernel_rfl)
theorem JA:OE 104 Tryz.f104:=aF.ab mixed Tryz.func104 (by kernel_rfl)
theorem Jz:OE 105 Tryz.f105:=aF.ab mixed Tryz.func105 (by kernel_rfl)
theorem Ky:OE 106 Tryz.f106:=aF.ab mixed Tryz.func106 (by kernel_rfl)
theorem Jy:OE 108 Tryz.f108:=aF.ab mixed Tryz.func108 (by kernel_rfl)
theorem Kx:OE 116 Tryz.f116:=aF.ab mixed Tryz.func116 (by kernel_rfl)
theorem Jx:OE 136 Tryz.f136:=aF.ab mixed Tryz.func136 (by kernel_rfl)
theorem Jw:OE 137 Tryz.f137:=aF.ab mixed Tryz.func137 (by kernel_rfl)
theorem Jv:OE 138 Tryz.f138:=aF.ab mixed Tryz.func138 (by kernel_rfl)
theorem fK:OE 142 Tryz.f142:=aF.ab mixed Tryz.func142 (by kernel_rfl)
theorem gi:OE 157 Tryz.f157:=aF.ab mixed Tryz.func157 (by kernel_rfl)
theorem GU:OE 158 Tryz.f158:=aF.ab mixed Tryz.func158 (by kernel_rfl)
theorem Cn:OE 159 Tryz.f159:=aF.ab mixed Tryz.func159 (by kernel_rfl)
theorem uU:OE 160 Tryz.f160:=aF.ab mixed Tryz.func160 (by kernel_rfl)
theorem ER:OE 161 Tryz.f161:=aF.ab mixed Tryz.func161 (by kernel_rfl)
theorem Ju:OE 167 Tryz.f167:=aF.ab mixed Tryz.func167 (by kernel_rfl)
theorem Kw:OE 168 Tryz.f168:=aF.ab mixed Tryz.func168 (by kernel_rfl)
theorem Kv:OE 169 Tryz.f169:=aF.ab mixed Tryz.func169 (by kernel_rfl)
theorem pJ (a b c d:Int) (a0:0≤a) (a1:a≤255) (b0:0≤b) (b1:b≤255) (c0:0≤c) (c1:c≤255) (d0:0≤d) (d1:d≤255):aF Tryz.prog 169 ([.aj .no 1 [.int .u8 a,.int .u8 b,.int .u8 c,.int .u8 d]]) (.int .u64 (a+256*b+65536*c+16777216*d)):=by
 exact (Kv (d:= .int .u64 (T8.wrap T8.u64 (↑(SF (Sy (64:Nat) (T8.wrap T8.u64 (T8.wrap T8.u64 (↑(SF (Sy (64:Nat) (T8.wrap T8.u64 (T8.wrap T8.u64 (↑(SF (Sy (64:Nat) (T8.wrap T8.u64 (T8.wrap T8.u64 (↑(SF (Sy (64:Nat) 0|||Sy (64:Nat) (T8.wrap T8.u64 d))):Int)*256))|||Sy (64:Nat) (T8.wrap T8.u64 c))):Int)*256))|||Sy (64:Nat) (T8.wrap T8.u64 b))):Int)*256))|||Sy (64:Nat) (T8.wrap T8.u64 a))):Int))) [.go 64,tT,tT,.get ([.int .u8 a,.int .u8 b,.int .u8 c,.int .u8 d]) 3 (.int .u8 d) rfl,tT,tT,.get ([.int .u8 a,.int .u8 b,.int .u8 c,.int .u8 d]) 2 (.int .u8 c) rfl,tT,tT,.get ([.int .u8 a,.int .u8 b,.int .u8 c,.int .u8 d]) 1 (.int .u8 b) rfl,tT,tT,.get ([.int .u8 a,.int .u8 b,.int .u8 c,.int .u8 d]) 0 (.int .u8 a) rfl,tF] (by kernel_rfl)).to (by simp only [wk,D.int.injEq,true_and];rw [Ie (y:=d) (by omega) (by omega),Ap (x:=d) (y:=c) (by omega) (by omega) (by omega) (by omega),Ap (x:=d*256+c) (y:=b) (by omega) (by omega) (by omega) (by omega),Ap (x:=(d*256+c)*256+b) (y:=a) (by omega) (by omega) (by omega) (by omega)];omega)
theorem qj (a b c d:Int) (a0:0≤a) (a1:a≤255) (b0:0≤b) (b1:b≤255) (c0:0≤c) (c1:c≤255) (d0:0≤d) (d1:d≤255):aF Tryz.prog 168 ([.aj .no 1 [.int .u8 a,.int .u8 b,.int .u8 c,.int .u8 d]]) (.int .i64 (eK a b c d)):=by
 exact (Kw (d:= .int .i64 (T8.i64.wrap (↑(SF (Sy (64:Nat) (T8.i64.wrap (T8.i64.wrap (↑(SF (Sy (64:Nat) (T8.i64.wrap (T8.i64.wrap (↑(SF (Sy (64:Nat) (T8.i64.wrap (T8.i64.wrap (T8.wrap T8.i8 d)*256))|||Sy (64:Nat) (T8.wrap T8.i64 c))):Int)*256))|||Sy (64:Nat) (T8.wrap T8.i64 b))):Int)*256))|||Sy (64:Nat) (T8.wrap T8.i64 a))):Int))) [tT,tF,tT,.get ([.int .u8 a,.int .u8 b,.int .u8 c,.int .u8 d]) 3 (.int .u8 d) rfl,.go 64,tT,tT,.get ([.int .u8 a,.int .u8 b,.int .u8 c,.int .u8 d]) 2 (.int .u8 c) rfl,tT,tT,.get ([.int .u8 a,.int .u8 b,.int .u8 c,.int .u8 d]) 1 (.int .u8 b) rfl,tT,tT,.get ([.int .u8 a,.int .u8 b,.int .u8 c,.int .u8 d]) 0 (.int .u8 a) rfl,tF] (by kernel_rfl)).to (by simp only [wk,D.int.injEq,true_and,kK];rw [show T8.i64.wrap ((d+128)%256 - 128)=(d+128)%256 - 128 by rw [cD];omega,ye (x:=(d+128)%256 - 128) (y:=c) (by omega) (by omega) (by omega) (by omega),ye (x:=((d+128)%256 - 128)*256+c) (y:=b) (by omega) (by omega) (by omega) (by omega),ye (x:=(((d+128)%256 - 128)*256+c)*256+b) (y:=a) (by omega) (by omega) (by omega) (by omega)];simp only [eK];omega)
theorem Ao (b:List Int) (i:Int) (hi:0≤i):aF Tryz.prog 158 ([.aj .no 1 (bD b),.int .i64 i]) (.int .u8 (fG b i.toNat)):=by
 rcases ef (decide ((↑(SA (bD b)):Int)≤i)) with h0|h0
 ·exact (GU (d:= .int .u8 0) [tC h0] (by kernel_rfl)).to (by simp only [wk,D.int.injEq,true_and];first|done|(symm;apply wF;simp only [decide_eq_true_eq] at*;omega))
 exact (GU (d:= .int .u8 (fG b (Sz i))) [tC h0,tC (v:=true) (bB 0 (decide_eq_false (Int.not_lt.2 hi))),.get _ _ _ (@IP b i hi (by (simp only [dX] at*;omega)))] (by kernel_rfl)).to (by simp only [wk,D.int.injEq,true_and];first|done|(symm;apply wF;simp only [decide_eq_true_eq] at*;omega))
theorem DH (b:List Int) (i:Int) (hi:0≤i) (h6:i≤6) (hs:((bD b).length:Int)<i+4):aF Tryz.prog 161 ([.aj .no 1 (bD b),.int .i64 i]) (.int .i64 0):=by
 exact (ER (d:= .int .i64 0) [tC (by (simp only [dX] at*;omega):(decide ((↑(SA (bD b)):Int)<T8.i64.wrap (i+4)))=true)] (by kernel_rfl)).to (by simp [wk])
theorem kY (v:Int) (v0:0≤v) (v1:v≤255) (hq:jm v=true):aF Tryz.prog 159 ([.int .u8 v]) (.aC [.bool (decide (v / 8%2=1)),.int .i8 (v / 4%2*8),.int .i8 (v%2*8),.bool true]):=by
 by_cases h0:SJ v 16=4
 ·let E1:EL:=(Sx 3 (tC (eF (nt (dx 4 true h0))))++ [tC (nt (dx 4 true h0))])
  by_cases h1:T8.wrap T8.u8 (↑(SF (Sy (8:Nat) v&&&Sy (8:Nat) 2)):Int)=0
  ·exact (Cn (d:= .aC [.bool (T8.wrap T8.u8 (↑(SF (Sy (8:Nat) v&&&Sy (8:Nat) 8)):Int) !=0),.int .i8 (T8.wrap T8.i8 (T8.wrap T8.u8 (↑(SF (Sy (8:Nat) (T8.wrap T8.u8 (v*2))&&&Sy (8:Nat) 8)):Int))),.int .i8 (T8.wrap T8.i8 (T8.wrap T8.u8 (↑(SF (Sy (8:Nat) (T8.wrap T8.u8 (v*8))&&&Sy (8:Nat) 8)):Int))),.bool true]) (E1++ [tC (nt (dx 0 true h1))]) (by kernel_rfl)).to (by clear E1;simp only [wk,ax,D.int.injEq,D.bool.injEq,true_and,and_true];obtain ⟨n,rfl⟩:=lk v0 v1;clear v0 v1;revert n;decide+kernel)
  exact (Cn (d:= .aC [.bool false,.int .i8 0,.int .i8 0,.bool false]) (E1++ [tC (nt (aw h1))]) (by kernel_rfl)).to (by clear E1;simp only [wk,ax,D.int.injEq,D.bool.injEq,true_and,and_true];obtain ⟨n,rfl⟩:=lk v0 v1;clear v0 v1;revert n;decide+kernel)
 exact (Cn (d:= .aC [.bool false,.int .i8 0,.int .i8 0,.bool false]) (Sx 3 (tC (eF (nt (aw h0))))++ [tC (nt (aw h0)),tT]) (by kernel_rfl)).to (by simp only [wk,ax,D.int.injEq,D.bool.injEq,true_and,and_true];obtain ⟨n,rfl⟩:=lk v0 v1;clear v0 v1;revert n;decide+kernel)
theorem k7 (v:Int) (v0:0≤v) (v1:v≤255) (hq:jm v=false):aF Tryz.prog 159 ([.int .u8 v]) (.aC [.bool false,.int .i8 0,.int .i8 0,.bool false]):=by
 by_cases h0:SJ v 16=4
 ·let E1:EL:=(Sx 3 (tC (eF (nt (dx 4 true h0))))++ [tC (nt (dx 4 true h0))])
  by_cases h1:T8.wrap T8.u8 (↑(SF (Sy (8:Nat) v&&&Sy (8:Nat) 2)):Int)=0
  ·exact (Cn (d:= .aC [.bool (T8.wrap T8.u8 (↑(SF (Sy (8:Nat) v&&&Sy (8:Nat) 8)):Int) !=0),.int .i8 (T8.wrap T8.i8 (T8.wrap T8.u8 (↑(SF (Sy (8:Nat) (T8.wrap T8.u8 (v*2))&&&Sy (8:Nat) 8)):Int))),.int .i8 (T8.wrap T8.i8 (T8.wrap T8.u8 (↑(SF (Sy (8:Nat) (T8.wrap T8.u8 (v*8))&&&Sy (8:Nat) 8)):Int))),.bool true]) (E1++ [tC (nt (dx 0 true h1))]) (by kernel_rfl)).to (by clear E1;first|(simp [wk,ax];done)|(simp only [wk,ax,D.int.injEq,D.bool.injEq,true_and,and_true];obtain ⟨n,rfl⟩:=lk v0 v1;clear v0 v1;revert n;decide+kernel))
  exact (Cn (d:= .aC [.bool false,.int .i8 0,.int .i8 0,.bool false]) (E1++ [tC (nt (aw h1))]) (by kernel_rfl)).to (by clear E1;first|(simp [wk,ax];done)|(simp only [wk,ax,D.int.injEq,D.bool.injEq,true_and,and_true];obtain ⟨n,rfl⟩:=lk v0 v1;clear v0 v1;revert n;decide+kernel))
 exact (Cn (d:= .aC [.bool false,.int .i8 0,.int .i8 0,.bool false]) (Sx 3 (tC (eF (nt (aw h0))))++ [tC (nt (aw h0)),tT]) (by kernel_rfl)).to (by first|(simp [wk,ax];done)|(simp only [wk,ax,D.int.injEq,D.bool.injEq,true_and,and_true];obtain ⟨n,rfl⟩:=lk v0 v1;clear v0 v1;revert n;decide+kernel))
theorem DL (a b c d:Int) (t:List Int) (a0:0≤a) (a1:a≤255) (b0:0≤b) (b1:b≤255) (c0:0≤c) (c1:c≤255) (d0:0≤d) (d1:d≤255):aF Tryz.prog 161 ([.aj .no 1 (.int .u8 a:: .int .u8 b:: .int .u8 c:: .int .u8 d::bD t),.int .i64 0]) (.int .i64 (eK a b c d)):=by
 have c0:= @pJ a b c d a0 a1 b0 b1 c0 c1 d0 d1
 exact (ER (d:= .int .i64 (T8.i64.wrap (T8.wrap T8.i32 (a+(256:Int)*b+(65536:Int)*c+(16777216:Int)*d)))) [tF,.cQ (decide ((0:Int)≤(0:Int)∧(0:Int)≤T8.i64.wrap ((0:Int)+(4:Int))∧T8.i64.wrap ((0:Int)+(4:Int))≤(↑(SA (.int .u8 a:: .int .u8 b:: .int .u8 c:: .int .u8 d::bD t)):Int))) true (by ((try simp only [SX,aN,dX] at*);omega)),.ret _ _ _ c0] (by kernel_rfl)).to (by simp only [wk,D.int.injEq,true_and,we,cD,eK];omega)
theorem DK (y0 a b c d:Int) (t:List Int) (a0:0≤a) (a1:a≤255) (b0:0≤b) (b1:b≤255) (c0:0≤c) (c1:c≤255) (d0:0≤d) (d1:d≤255):aF Tryz.prog 161 ([.aj .no 1 (.int .u8 y0:: .int .u8 a:: .int .u8 b:: .int .u8 c:: .int .u8 d::bD t),.int .i64 1]) (.int .i64 (eK a b c d)):=by
 have c0:= @pJ a b c d a0 a1 b0 b1 c0 c1 d0 d1
 exact (ER (d:= .int .i64 (T8.i64.wrap (T8.wrap T8.i32 (a+(256:Int)*b+(65536:Int)*c+(16777216:Int)*d)))) [tF,.cQ (decide ((0:Int)≤(1:Int)∧(1:Int)≤T8.i64.wrap ((1:Int)+(4:Int))∧T8.i64.wrap ((1:Int)+(4:Int))≤(↑(SA (.int .u8 y0:: .int .u8 a:: .int .u8 b:: .int .u8 c:: .int .u8 d::bD t)):Int))) true (by ((try simp only [SX,aN,dX] at*);omega)),.ret _ _ _ c0] (by kernel_rfl)).to (by simp only [wk,D.int.injEq,true_and,we,cD,eK];omega)
theorem DJ (y0 y1 y2 y3 y4 a b c d:Int) (t:List Int) (a0:0≤a) (a1:a≤255) (b0:0≤b) (b1:b≤255) (c0:0≤c) (c1:c≤255) (d0:0≤d) (d1:d≤255):aF Tryz.prog 161 ([.aj .no 1 (.int .u8 y0:: .int .u8 y1:: .int .u8 y2:: .int .u8 y3:: .int .u8 y4:: .int .u8 a:: .int .u8 b:: .int .u8 c:: .int .u8 d::bD t),.int .i64 5]) (.int .i64 (eK a b c d)):=by
 have c0:= @pJ a b c d a0 a1 b0 b1 c0 c1 d0 d1
 exact (ER (d:= .int .i64 (T8.i64.wrap (T8.wrap T8.i32 (a+(256:Int)*b+(65536:Int)*c+(16777216:Int)*d)))) [tF,.cQ (decide ((0:Int)≤(5:Int)∧(5:Int)≤T8.i64.wrap ((5:Int)+(4:Int))∧T8.i64.wrap ((5:Int)+(4:Int))≤(↑(SA (.int .u8 y0:: .int .u8 y1:: .int .u8 y2:: .int .u8 y3:: .int .u8 y4:: .int .u8 a:: .int .u8 b:: .int .u8 c:: .int .u8 d::bD t)):Int))) true (by ((try simp only [SX,aN,dX] at*);omega)),.ret _ _ _ c0] (by kernel_rfl)).to (by simp only [wk,D.int.injEq,true_and,we,cD,eK];omega)
theorem DI (y0 y1 y2 y3 y4 y5 a b c d:Int) (t:List Int) (a0:0≤a) (a1:a≤255) (b0:0≤b) (b1:b≤255) (c0:0≤c) (c1:c≤255) (d0:0≤d) (d1:d≤255):aF Tryz.prog 161 ([.aj .no 1 (.int .u8 y0:: .int .u8 y1:: .int .u8 y2:: .int .u8 y3:: .int .u8 y4:: .int .u8 y5:: .int .u8 a:: .int .u8 b:: .int .u8 c:: .int .u8 d::bD t),.int .i64 6]) (.int .i64 (eK a b c d)):=by
 have c0:= @pJ a b c d a0 a1 b0 b1 c0 c1 d0 d1
 exact (ER (d:= .int .i64 (T8.i64.wrap (T8.wrap T8.i32 (a+(256:Int)*b+(65536:Int)*c+(16777216:Int)*d)))) [tF,.cQ (decide ((0:Int)≤(6:Int)∧(6:Int)≤T8.i64.wrap ((6:Int)+(4:Int))∧T8.i64.wrap ((6:Int)+(4:Int))≤(↑(SA (.int .u8 y0:: .int .u8 y1:: .int .u8 y2:: .int .u8 y3:: .int .u8 y4:: .int .u8 y5:: .int .u8 a:: .int .u8 b:: .int .u8 c:: .int .u8 d::bD t)):Int))) true (by ((try simp only [SX,aN,dX] at*);omega)),.ret _ _ _ c0] (by kernel_rfl)).to (by simp only [wk,D.int.injEq,true_and,we,cD,eK];omega)
theorem hU:aF Tryz.prog 160 ([.aj .no 1 []]) (.aC [.int .i8 0,.int .i8 0,.int .i64 0,.bool false,.int .i64 0,.int .i64 30]):=by
 exact (uU (d:= .aC [.int .i8 0,.int .i8 0,.int .i64 0,.bool false,.int .i64 0,.int .i64 30]) [tT] (by kernel_rfl)).to (by simp [wk,ax])
theorem Cs (v:Int) (v0:0≤v) (v1:v≤255) (t:List Int) (h3:v / 64=3):aF Tryz.prog 160 ([.aj .no 1 (.int .u8 v::bD t)]) (.aC [.int .i8 (v / 8%8),.int .i8 (v%8),.int .i64 (0),.bool false,.int .i64 1,.int .i64 0]):=by
 exact (uU (d:= .aC [.int .i8 (T8.wrap T8.i8 (T8.wrap T8.u8 (↑(SF (Sy (8:Nat) (SJ v 8)&&&Sy (8:Nat) 7)):Int))),.int .i8 (T8.wrap T8.i8 (T8.wrap T8.u8 (↑(SF (Sy (8:Nat) v&&&Sy (8:Nat) 7)):Int))),.int .i64 0,.bool false,.int .i64 1,.int .i64 0]) ([tF]++Sx 3 (.get (.int .u8 v::bD t) 0 (.int .u8 v) rfl)++ [tC (dx 3 true (eq_of_beq (@HM v h3)))]) (by kernel_rfl)).to (by simp only [wk,ax,D.int.injEq,D.bool.injEq,true_and,and_true,yF,Ir v0 v1,and_self];first|done|omega)
theorem yx (v:Int) (v0:0≤v) (v1:v≤255) (a b c d:Int) (t:List Int) (a0:0≤a) (a1:a≤255) (b0:0≤b) (b1:b≤255) (c0:0≤c) (c1:c≤255) (d0:0≤d) (d1:d≤255) (h2:v / 64=2) (hr:¬v%8=4):aF Tryz.prog 160 ([.aj .no 1 (.int .u8 v:: .int .u8 a:: .int .u8 b:: .int .u8 c:: .int .u8 d::bD t)]) (.aC [.int .i8 (v / 8%8),.int .i8 (v%8),.int .i64 (eK a b c d),.bool true,.int .i64 5,.int .i64 0]):=by
 have c0:= @qj a b c d a0 a1 b0 b1 c0 c1 d0 d1
 generalize g2:eK a b c d=r1 at c0
 exact (uU (d:= .aC [.int .i8 (T8.wrap T8.i8 (T8.wrap T8.u8 (↑(SF (Sy (8:Nat) (SJ v (8:Int))&&&Sy (8:Nat) (7:Int))):Int))),.int .i8 (T8.wrap T8.i8 (T8.wrap T8.u8 (↑(SF (Sy (8:Nat) v&&&Sy (8:Nat) (7:Int))):Int))),.int .i64 r1,.bool true,.int .i64 5,.int .i64 0]) ([tF]++Sx 3 (.get (.int .u8 v:: .int .u8 a:: .int .u8 b:: .int .u8 c:: .int .u8 d::bD t) 0 (.int .u8 v) rfl)++ [tC (@pR (v) h2),tC (dx 2 true (eq_of_beq (@pU (v) h2))),tC (@Fb (v) hr)]++Sx 3 (tC (eT (bB 5 (by ((try simp only [SX,S3,aN,dX] at*);omega):(decide ((↑(SA (.int .u8 v:: .int .u8 a:: .int .u8 b:: .int .u8 c:: .int .u8 d::bD t)):Int)<(5:Int)))=false))))++ [tF,tF,tF,tF,tC (eT (bB 5 (by ((try simp only [SX,S3,aN,dX] at*);omega):(decide ((↑(SA (.int .u8 v:: .int .u8 a:: .int .u8 b:: .int .u8 c:: .int .u8 d::bD t)):Int)<(5:Int)))=false))),tT,tC (bB 5 (by ((try simp only [SX,S3,aN,dX] at*);omega):(decide ((↑(SA (.int .u8 v:: .int .u8 a:: .int .u8 b:: .int .u8 c:: .int .u8 d::bD t)):Int)<(5:Int)))=false)),tT,.cQ (decide ((0:Int)≤(1:Int)∧(1:Int)≤T8.i64.wrap ((1:Int)+(4:Int))∧T8.i64.wrap ((1:Int)+(4:Int))≤(↑(SA (.int .u8 v:: .int .u8 a:: .int .u8 b:: .int .u8 c:: .int .u8 d::bD t)):Int))) true (by ((try simp only [SX,S3,aN,dX] at*);omega)),.ret _ _ _ c0]) (by kernel_rfl)).to (by simp only [wk,ax,D.int.injEq,D.bool.injEq,true_and,and_true,yF,Ir v0 v1,and_self];first|done|omega)
theorem yw (v:Int) (v0:0≤v) (v1:v≤255) (a b c d:Int) (t:List Int) (a0:0≤a) (a1:a≤255) (b0:0≤b) (b1:b≤255) (c0:0≤c) (c1:c≤255) (d0:0≤d) (d1:d≤255) (h2:v / 64=2) (hr:v%8=4):aF Tryz.prog 160 ([.aj .no 1 (.int .u8 v:: .int .u8 36:: .int .u8 a:: .int .u8 b:: .int .u8 c:: .int .u8 d::bD t)]) (.aC [.int .i8 (v / 8%8),.int .i8 (v%8),.int .i64 (eK a b c d),.bool true,.int .i64 6,.int .i64 0]):=by
 have c0:= @qj a b c d a0 a1 b0 b1 c0 c1 d0 d1
 generalize g2:eK a b c d=r1 at c0
 exact (uU (d:= .aC [.int .i8 (T8.wrap T8.i8 (T8.wrap T8.u8 (↑(SF (Sy (8:Nat) (SJ v (8:Int))&&&Sy (8:Nat) (7:Int))):Int))),.int .i8 (T8.wrap T8.i8 (T8.wrap T8.u8 (↑(SF (Sy (8:Nat) v&&&Sy (8:Nat) (7:Int))):Int))),.int .i64 r1,.bool true,.int .i64 6,.int .i64 0]) ([tF]++Sx 3 (.get (.int .u8 v:: .int .u8 36:: .int .u8 a:: .int .u8 b:: .int .u8 c:: .int .u8 d::bD t) 0 (.int .u8 v) rfl)++ [tC (@pR (v) h2),tC (dx 2 true (eq_of_beq (@pU (v) h2))),tC (dx 4 true (eq_of_beq (@yG (v) hr)))]++Sx 3 (tC (eT (bB 6 (by ((try simp only [SX,S3,aN,dX] at*);omega):(decide ((↑(SA (.int .u8 v:: .int .u8 36:: .int .u8 a:: .int .u8 b:: .int .u8 c:: .int .u8 d::bD t)):Int)<(6:Int)))=false))))++ [tT,tT,.get (.int .u8 v:: .int .u8 36:: .int .u8 a:: .int .u8 b:: .int .u8 c:: .int .u8 d::bD t) 1 (.int .u8 36) rfl,tT,tT,tC (eT (bB 6 (by ((try simp only [SX,S3,aN,dX] at*);omega):(decide ((↑(SA (.int .u8 v:: .int .u8 36:: .int .u8 a:: .int .u8 b:: .int .u8 c:: .int .u8 d::bD t)):Int)<(6:Int)))=false))),tF,tC (bB 6 (by ((try simp only [SX,S3,aN,dX] at*);omega):(decide ((↑(SA (.int .u8 v:: .int .u8 36:: .int .u8 a:: .int .u8 b:: .int .u8 c:: .int .u8 d::bD t)):Int)<(6:Int)))=false)),tT,.cQ (decide ((0:Int)≤(2:Int)∧(2:Int)≤T8.i64.wrap ((2:Int)+(4:Int))∧T8.i64.wrap ((2:Int)+(4:Int))≤(↑(SA (.int .u8 v:: .int .u8 36:: .int .u8 a:: .int .u8 b:: .int .u8 c:: .int .u8 d::bD t)):Int))) true (by ((try simp only [SX,S3,aN,dX] at*);omega)),.ret _ _ _ c0]) (by kernel_rfl)).to (by simp only [wk,ax,D.int.injEq,D.bool.injEq,true_and,and_true,yF,Ir v0 v1,and_self];first|done|omega)
theorem Ct (v:Int) (v0:0≤v) (v1:v≤255) (t:List Int) (hl:v / 64<2):aF Tryz.prog 160 ([.aj .no 1 (.int .u8 v::bD t)]) (.aC [.int .i8 0,.int .i8 0,.int .i64 0,.bool false,.int .i64 0,.int .i64 30]):=by
 exact (uU (d:= .aC [.int .i8 0,.int .i8 0,.int .i64 0,.bool false,.int .i64 0,.int .i64 30]) ([tF]++Sx 3 (.get (.int .u8 v::bD t) 0 (.int .u8 v) rfl)++ [tC (@Gf v hl),tC (@HN v hl)]) (by kernel_rfl)).to (by simp [wk,ax])
theorem Cr (v:Int) (v0:0≤v) (v1:v≤255) (t:List Int) (h2:v / 64=2) (hr:¬v%8=4) (hs:t.length<4):aF Tryz.prog 160 ([.aj .no 1 (.int .u8 v::bD t)]) (.aC [.int .i8 0,.int .i8 0,.int .i64 0,.bool false,.int .i64 0,.int .i64 30]):=by
 exact (uU (d:= .aC [.int .i8 0,.int .i8 0,.int .i64 0,.bool false,.int .i64 0,.int .i64 30]) ([tF]++Sx 3 (.get (.int .u8 v::bD t) 0 (.int .u8 v) rfl)++ [tC (@pR v h2),tC (dx 2 true (eq_of_beq (@pU v h2))),tC (@Fb v hr)]++Sx 4 (tC (eT (bB 5 (by ((try simp only [SX,S3,aN,dX] at*);omega):(decide ((↑(SA (.int .u8 v::bD t)):Int)<5))=true))))++ [tC (bB 5 (by ((try simp only [SX,S3,aN,dX] at*);omega):(decide ((↑(SA (.int .u8 v::bD t)):Int)<5))=true)),tF]) (by kernel_rfl)).to (by simp [wk,ax])
theorem sL (v:Int) (v0:0≤v) (v1:v≤255) (t:List Int) (h2:v / 64=2) (hr:v%8=4) (hs:t.length<5):aF Tryz.prog 160 ([.aj .no 1 (.int .u8 v::bD t)]) (.aC [.int .i8 0,.int .i8 0,.int .i64 0,.bool false,.int .i64 0,.int .i64 30]):=by
 exact (uU (d:= .aC [.int .i8 0,.int .i8 0,.int .i64 0,.bool false,.int .i64 0,.int .i64 30]) ([tF]++Sx 3 (.get (.int .u8 v::bD t) 0 (.int .u8 v) rfl)++ [tC (@pR v h2),tC (dx 2 true (eq_of_beq (@pU v h2))),tC (dx 4 true (eq_of_beq (@yG v hr)))]++Sx 4 (tC (eT (bB 6 (by ((try simp only [SX,S3,aN,dX] at*);omega):(decide ((↑(SA (.int .u8 v::bD t)):Int)<6))=true))))++ [tC (bB 6 (by ((try simp only [SX,S3,aN,dX] at*);omega):(decide ((↑(SA (.int .u8 v::bD t)):Int)<6))=true)),tF]) (by kernel_rfl)).to (by simp [wk,ax])
theorem Cq (v:Int) (v0:0≤v) (v1:v≤255) (s:Int) (t:List Int) (h2:v / 64=2) (hr:v%8=4) (hs:¬s=36):aF Tryz.prog 160 ([.aj .no 1 (.int .u8 v:: .int .u8 s::bD t)]) (.aC [.int .i8 0,.int .i8 0,.int .i64 0,.bool false,.int .i64 0,.int .i64 30]):=by
 let E1:EL:=([tF]++Sx 3 (.get (.int .u8 v:: .int .u8 s::bD t) 0 (.int .u8 v) rfl)++ [tC (@pR v h2),tC (dx 2 true (eq_of_beq (@pU v h2))),tC (dx 4 true (eq_of_beq (@yG v hr)))])
 rcases ef (decide ((↑(SA (.int .u8 v:: .int .u8 s::bD t)):Int)<6)) with h0|h0
 ·exact (uU (d:= .aC [.int .i8 0,.int .i8 0,.int .i64 0,.bool false,.int .i64 0,.int .i64 30]) (E1++Sx 4 (tC (eT (bB 6 h0)))++ [tC (bB 6 h0),tF]) (by kernel_rfl)).to (by clear E1;simp [wk,ax])
 exact (uU (d:= .aC [.int .i8 0,.int .i8 0,.int .i64 0,.bool false,.int .i64 0,.int .i64 30]) (E1++Sx 3 (tC (eT (bB 6 h0)))++ [tT,tT,.get (.int .u8 v:: .int .u8 s::bD t) 1 (.int .u8 s) rfl,tT,tT,tC (eT (bB 6 h0)),tF,tC (bB 6 h0),tC (by ((try simp only [SX,S3,aN,dX] at*);omega):(s==36)=false)]) (by kernel_rfl)).to (by clear E1;simp [wk,ax])
theorem nA (t:List Int):t.length<4∨∃a b c d r,t=a::b::c::d::r:=by
 match t with
 | []=>exact .inl (by simp)
 | [_]=>exact .inl (by simp)
 | [_,_]=>exact .inl (by simp)
 | [_,_,_]=>exact .inl (by simp)
 |a::b::c::d::r=>exact .inr ⟨a,b,c,d,r,rfl⟩
theorem kD (v:List Int) (hv:fO v):aF Tryz.prog 160 [.aj .no 1 (bD v)] (.aC [.int .i8 (iB v),.int .i8 (iC v),.int .i64 (jH v),.bool (decide (2≤fR v)),.int .i64 (fR v:Int),.int .i64 (iv v)]):=by
 match v,hv with
 | [],_=>exact hU.cast rfl rfl
 |v::t,hv=>
  obtain ⟨⟨v0,v1⟩,ht⟩:=ek.1 hv
  have e:bD (v::t)= .int .u8 v::bD t:=rfl
  by_cases h3:v / 64=3
  ·have hn:fR (v::t)=1:=by simp [fR,h3]
   refine (Cs v v0 v1 t h3).cast rfl ?_
   simp [iB,iC,jH,iv,hn,hd]
  ·by_cases h2:v / 64=2
   ·by_cases hr:v%8=4
    ·match t,ht with
     | [],ht=>
      have hn:fR [v]=0:=by simp [fR,h2,hr]
      refine (sL v v0 v1 [] h2 hr (by simp)).cast rfl ?_
      simp [iB,iC,jH,iv,hn]
     |s::t,ht=>
      by_cases hs:s=36
      ·subst hs
       rcases nA t with hl|⟨a,b,c,d,r,rfl⟩
       ·have hn:fR (v::36::t)=0:=by simp [fR,h2,hr,hd];omega
        refine (sL v v0 v1 (36::t) h2 hr (by simp;omega)).cast rfl ?_
        simp [iB,iC,jH,iv,hn]
       ·have hn:fR (v::36::a::b::c::d::r)=6:=by simp [fR,h2,hr,hd]
        simp only [ek] at ht
        obtain ⟨-,⟨a0,a1⟩,⟨b0,b1⟩,⟨c0,c1⟩,⟨d0,d1⟩,-⟩:=ht
        refine (yw v v0 v1 a b c d r a0 a1 b0 b1 c0 c1 d0 d1 h2 hr).cast rfl ?_
        simp [iB,iC,jH,iv,hn,hd,xK]
      ·have hn:fR (v::s::t)=0:=by simp [fR,h2,hr,hd,hs]
       refine (Cq v v0 v1 s t h2 hr hs).cast rfl ?_
       simp [iB,iC,jH,iv,hn]
    ·rcases nA t with hl|⟨a,b,c,d,r,rfl⟩
     ·have hn:fR (v::t)=0:=by simp [fR,h2,hr];omega
      refine (Cr v v0 v1 t h2 hr hl).cast rfl ?_
      simp [iB,iC,jH,iv,hn]
     ·have hn:fR (v::a::b::c::d::r)=5:=by simp [fR,h2,hr]
      simp only [ek] at ht
      obtain ⟨⟨a0,a1⟩,⟨b0,b1⟩,⟨c0,c1⟩,⟨d0,d1⟩,-⟩:=ht
      refine (yx v v0 v1 a b c d r a0 a1 b0 b1 c0 c1 d0 d1 h2 hr).cast rfl ?_
      simp [iB,iC,jH,iv,hn,hd,xK]
   ·have hn:fR (v::t)=0:=by simp [fR,h2,h3]
    refine (Ct v v0 v1 t (by omega)).cast rfl ?_
    simp [iB,iC,jH,iv,hn]
theorem Ad (b:List Int) (hb:fO b) (i:Nat) (hi:i=0∨i=1∨i=5∨i=6):aF Tryz.prog 161 [.aj .no 1 (bD b),.int .i64 (i:Int)] (.int .i64 (gl b i)):=by
 by_cases hs:b.length<i+4
 ·refine (DH b i (by omega) (by omega) (by rw [aN];omega)).cast rfl ?_
  simp [gl,hs]
 ·have hq:∀ {x:D},gl b i=xK (b.drop i):=fun {_} =>by simp [gl,hs]
  rw [hq (x:= .undef)]
  rcases hi with rfl|rfl|rfl|rfl
  ·match b,hb,hs with
   |a::b::c::d::t,hb,_=>
    simp only [ek] at hb
    obtain ⟨⟨a0,a1⟩,⟨b0,b1⟩,⟨c0,c1⟩,⟨d0,d1⟩,-⟩:=hb
    exact (DL a b c d t a0 a1 b0 b1 c0 c1 d0 d1).cast rfl rfl
   | [],_,hs| [_],_,hs| [_,_],_,hs| [_,_,_],_,hs=>simp at hs
  ·match b,hb,hs with
   |y::a::b::c::d::t,hb,_=>
    simp only [ek] at hb
    obtain ⟨-,⟨a0,a1⟩,⟨b0,b1⟩,⟨c0,c1⟩,⟨d0,d1⟩,-⟩:=hb
    exact (DK y a b c d t a0 a1 b0 b1 c0 c1 d0 d1).cast rfl rfl
   | [],_,hs| [_],_,hs| [_,_],_,hs| [_,_,_],_,hs| [_,_,_,_],_,hs=>simp at hs
  ·match b,hb,hs with
   |y0::y1::y2::y3::y4::a::b::c::d::t,hb,_=>
    simp only [ek] at hb
    obtain ⟨-,-,-,-,-,⟨a0,a1⟩,⟨b0,b1⟩,⟨c0,c1⟩,⟨d0,d1⟩,-⟩:=hb
    exact (DJ y0 y1 y2 y3 y4 a b c d t a0 a1 b0 b1 c0 c1 d0 d1).cast rfl rfl
   | [],_,hs| [_],_,hs| [_,_],_,hs| [_,_,_],_,hs| [_,_,_,_],_,hs| [_,_,_,_,_],_,hs| [_,_,_,_,_,_],_,hs| [_,_,_,_,_,_,_],_,hs| [_,_,_,_,_,_,_,_],_,hs=>simp at hs
  ·match b,hb,hs with
   |y0::y1::y2::y3::y4::y5::a::b::c::d::t,hb,_=>
    simp only [ek] at hb
    obtain ⟨-,-,-,-,-,-,⟨a0,a1⟩,⟨b0,b1⟩,⟨c0,c1⟩,⟨d0,d1⟩,-⟩:=hb
    exact (DI y0 y1 y2 y3 y4 y5 a b c d t a0 a1 b0 b1 c0 c1 d0 d1).cast rfl rfl
   | [],_,hs| [_],_,hs| [_,_],_,hs| [_,_,_],_,hs| [_,_,_,_],_,hs| [_,_,_,_,_],_,hs| [_,_,_,_,_,_],_,hs| [_,_,_,_,_,_,_],_,hs| [_,_,_,_,_,_,_,_],_,hs| [_,_,_,_,_,_,_,_,_],_,hs=>simp at hs
theorem Cu (v:List Int):fR v=0∨fR v=1∨fR v=5∨fR v=6:=by
 unfold fR
 split
 ·exact .inl rfl
 ·split
  ·exact .inr (.inl rfl)
  ·split
   ·split<;>split<;>simp
   ·exact .inl rfl
theorem dS (v:List Int) (hv:fO v):aF Tryz.prog 161 [.aj .no 1 (bD v),.int .i64 (fR v:Int)] (.int .i64 (gl v (fR v))):=Ad v hv _ (Cu v)
theorem bm (v:List Int) (hv:fO v):aF Tryz.prog 161 [.aj .no 1 (bD v),.int .i64 0] (.int .i64 (gl v 0)):=Ad v hv 0 (.inl rfl)
theorem dT (v:List Int):aF Tryz.prog 158 [.aj .no 1 (bD v),.int .i64 (fR v:Int)] (.int .u8 (fG v (fR v))):=(Ao v _ (by omega)).cast rfl (by simp)
theorem bn (v:List Int):aF Tryz.prog 158 [.aj .no 1 (bD v),.int .i64 0] (.int .u8 (fG v 0)):=Ao v 0 (by omega)
theorem sR:type_of%(S7 @decide_eq_true_eq (S7 @decide_eq_false_iff_not (S7 @D.int.injEq (S7 @D.bool.injEq (S7 @true_and @and_true))))):=(S7 @decide_eq_true_eq (S7 @decide_eq_false_iff_not (S7 @D.int.injEq (S7 @D.bool.injEq (S7 @true_and @and_true)))))
theorem bN (x:Int) (l:List D):aF Tryz.prog 158 ([.aj .no 1 (.int .u8 x::l),.int .i64 0]) (.int .u8 x):=by
 exact (GU (d:= .int .u8 x) [tF,tT,.get (.int .u8 x::l) 0 (.int .u8 x) rfl] (by kernel_rfl)).to (by simp [wk])
theorem dE:aF Tryz.prog 158 ([.aj .no 1 [],.int .i64 0]) (.int .u8 0):=by
 exact (GU (d:= .int .u8 0) [tT] (by kernel_rfl)).to (by simp [wk])
theorem BX:aF Tryz.prog 142 ([.aj .no 1 ([])]) (.aC [da (mi 32 0),.bool false]):=by
 have c0:= @dE
 have c1:= @dE
 have c2:= @k7 0 (by decide) (by decide) (rfl:false=false)
 exact (fK (d:= .aC [.agg [.int .i8 32,.bool false,.int .u8 0,.int .i8 0,.int .i8 0,.int .i64 0,.int .i64 0,.int .i64 0,.int .i64 0,.int .i64 0,.int .i8 0],.bool false]) [.ret _ _ _ c0,tF,.ret _ _ _ c1,.ret _ _ _ c2,tF,tT] (by kernel_rfl)).to (by first|(simp [wk,ax,da,mi, *];done)|(simp only [decide_eq_true_eq,decide_eq_false_iff_not] at*;simp [wk,ax,da,mi, *]))
theorem B0 (d:Int) (v:List Int) (hv:fO v):aF Tryz.prog 142 ([.aj .no 1 (.int .u8 15:: .int .u8 d::bD v)]) (.aC [da (aZ 32 0 0 true d v),.bool true]):=by
 have c0:= @bN 15 (.int .u8 d::bD v)
 have c1:= @bN 15 (.int .u8 d::bD v)
 have c2:= @k7 15 (by first|rfl|decide) (by first|rfl|decide) (rfl:false=false)
 have c3:= @kD v hv
 let E1:EL:= [.ret _ _ _ c0,tF,.ret _ _ _ c1,.ret _ _ _ c2,tF,tF,.get (.int .u8 15:: .int .u8 d::bD v) 0 (.int .u8 15) rfl,.cQ (decide ((0:Int)≤(1:Int)∧(1:Int)≤(↑(SA (.int .u8 15:: .int .u8 d::bD v)):Int))) true (by simp [aN]<;>omega),tT,tT,tT,tT,tC (aY 0 (by simp [aN]<;>omega:(decide ((↑(SA (.int .u8 d::bD v)):Int)<(1:Int)))=false)),.get (.int .u8 d::bD v) 0 (.int .u8 d) rfl,.cQ (decide ((0:Int)≤(1:Int)∧(1:Int)≤(↑(SA (Tv (Sz (1:Int)) (.int .u8 15:: .int .u8 d::bD v))):Int))) true (by simp [aN]<;>omega),.ret _ _ _ c3]
 by_cases h4:iv v=0
 ·have c5:= @dS v hv
  have c6:= @dT v
  have c7:= @bm v hv
  have c8:= @bn v
  exact (fK (d:= .aC [.agg [.int .i8 32,.bool true,.int .u8 d,.int .i8 (T8.wrap T8.i8 (↑(SF (Sy (8:Nat) (iB v)|||Sy (8:Nat) (0:Int))):Int)),.int .i8 (T8.wrap T8.i8 (↑(SF (Sy (8:Nat) (iC v)|||Sy (8:Nat) (0:Int))):Int)),.int .i64 (jH v),.int .i64 (gl v (fR v)),.int .i64 (T8.i64.wrap (fG v (fR v))),.int .i64 (gl v (0:Nat)),.int .i64 (T8.i64.wrap (T8.wrap T8.i8 (fG v (0:Nat)))),.int .i8 0],.bool true]) (E1++ [tC (nt (dx 0 true h4)),.ret _ _ _ c5,.ret _ _ _ c6,.ret _ _ _ c7,.ret _ _ _ c8]) (by kernel_rfl)).to (by clear E1;(try simp only [sR,wk,ax,da,aZ] at*);(try rw [dp ‹¬iv v=0›]);(try simp only [cH hv,dn,gw hv (Tt rfl),gx hv (Tt rfl),ey hv,ez hv]);simp [*])
 have c9:= @bm v hv
 have LZ:= @bn v
 have Nb:= @bm v hv
 have Nz:= @bn v
 exact (fK (d:= .aC [.agg [.int .i8 32,.bool true,.int .u8 d,.int .i8 (T8.wrap T8.i8 (↑(SF (Sy (8:Nat) (iB v)|||Sy (8:Nat) (0:Int))):Int)),.int .i8 (T8.wrap T8.i8 (↑(SF (Sy (8:Nat) (iC v)|||Sy (8:Nat) (0:Int))):Int)),.int .i64 (jH v),.int .i64 (gl v (0:Nat)),.int .i64 (T8.i64.wrap (fG v (0:Nat))),.int .i64 (gl v (0:Nat)),.int .i64 (T8.i64.wrap (T8.wrap T8.i8 (fG v (0:Nat)))),.int .i8 0],.bool true]) (E1++ [tC (nt (aw h4)),.ret _ _ _ c9,.ret _ _ _ LZ,.ret _ _ _ Nb,.ret _ _ _ Nz]) (by kernel_rfl)).to (by clear E1;(try simp only [sR,wk,ax,da,aZ] at*);(try rw [dp ‹¬iv v=0›]);(try simp only [cH hv,dn,gw hv (Tt rfl),gx hv (Tt rfl),ey hv,ez hv]);simp [*])
theorem B1:aF Tryz.prog 142 ([.aj .no 1 (.int .u8 15:: [])]) (.aC [da (aZ 32 0 0 false 15 []),.bool true]):=by
 have c0:= @bN 15 ([])
 have c1:= @bN 15 ([])
 have c2:= @k7 15 (by decide) (by decide) (rfl:false=false)
 have c3:= @hU
 have c4:= @dE
 have c5:= @dE
 exact (fK (d:= .aC [.agg [.int .i8 32,.bool false,.int .u8 15,.int .i8 0,.int .i8 0,.int .i64 0,.int .i64 0,.int .i64 0,.int .i64 0,.int .i64 0,.int .i8 0],.bool true]) [.ret _ _ _ c0,tF,.ret _ _ _ c1,.ret _ _ _ c2,tF,tF,.get ([.int .u8 15]) 0 (.int .u8 15) rfl,tT,tT,tT,tT,tT,tF,.ret _ _ _ c3,tT,.inl,tT,.ret _ _ _ c4,.inl,tT,.ret _ _ _ c5] (by kernel_rfl)).to (by (try simp only [sR,wk,ax,da,aZ] at*);(try rw [dp ‹¬iv []=0›]);(try simp only [cH gy,dn,gw gy (Tt rfl),gx gy (Tt rfl),ey gy,ez gy]);simp [*,iB,iC,jH,fR,gl,fG,dH])
theorem BZ (c:Int) (k0:0≤c) (k1:c≤255) (hq:jm c=false) (h2:¬c=102) (hc:¬c=15) (v:List Int) (hv:fO v):aF Tryz.prog 142 ([.aj .no 1 (.int .u8 c::bD v)]) (.aC [da (aZ 32 0 0 false c v),.bool true]):=by
 have c0:= @bN c (bD v)
 have c1:= @bN c (bD v)
 have c2:= @k7 c k0 k1 hq
 have c3:= @kD v hv
 let E1:EL:=([.ret _ _ _ c0,tC (by simp [aN]<;>omega:(c==(102:Int))=false),.ret _ _ _ c1,.ret _ _ _ c2,tF,tF,.get (.int .u8 c::bD v) 0 (.int .u8 c) rfl,.cQ (decide ((0:Int)≤(1:Int)∧(1:Int)≤(↑(SA (.int .u8 c::bD v)):Int))) true (by simp [aN]<;>omega)]++Sx 3 (tC (eT (by simp [aN]<;>omega:(c==(15:Int))=false)))++ [tC (by simp [aN]<;>omega:(c==(15:Int))=false),tF,.ret _ _ _ c3])
 by_cases h4:iv v=0
 ·have c5:= @dS v hv
  have c6:= @dT v
  have c7:= @bm v hv
  have c8:= @bn v
  exact (fK (d:= .aC [.agg [.int .i8 32,.bool false,.int .u8 c,.int .i8 (T8.wrap T8.i8 (↑(SF (Sy (8:Nat) (iB v)|||Sy (8:Nat) (0:Int))):Int)),.int .i8 (T8.wrap T8.i8 (↑(SF (Sy (8:Nat) (iC v)|||Sy (8:Nat) (0:Int))):Int)),.int .i64 (jH v),.int .i64 (gl v (fR v)),.int .i64 (T8.i64.wrap (fG v (fR v))),.int .i64 (gl v (0:Nat)),.int .i64 (T8.i64.wrap (T8.wrap T8.i8 (fG v (0:Nat)))),.int .i8 0],.bool true]) (E1++ [tC (nt (dx 0 true h4)),.ret _ _ _ c5,.ret _ _ _ c6,.ret _ _ _ c7,.ret _ _ _ c8]) (by kernel_rfl)).to (by clear E1;(try simp only [sR,wk,ax,da,aZ] at*);(try rw [dp ‹¬iv v=0›]);(try simp only [cH hv,dn,gw hv (Tt rfl),gx hv (Tt rfl),ey hv,ez hv]);simp [*])
 have c9:= @bm v hv
 have LZ:= @bn v
 have Nb:= @bm v hv
 have Nz:= @bn v
 exact (fK (d:= .aC [.agg [.int .i8 32,.bool false,.int .u8 c,.int .i8 (T8.wrap T8.i8 (↑(SF (Sy (8:Nat) (iB v)|||Sy (8:Nat) (0:Int))):Int)),.int .i8 (T8.wrap T8.i8 (↑(SF (Sy (8:Nat) (iC v)|||Sy (8:Nat) (0:Int))):Int)),.int .i64 (jH v),.int .i64 (gl v (0:Nat)),.int .i64 (T8.i64.wrap (fG v (0:Nat))),.int .i64 (gl v (0:Nat)),.int .i64 (T8.i64.wrap (T8.wrap T8.i8 (fG v (0:Nat)))),.int .i8 0],.bool true]) (E1++ [tC (nt (aw h4)),.ret _ _ _ c9,.ret _ _ _ LZ,.ret _ _ _ Nb,.ret _ _ _ Nz]) (by kernel_rfl)).to (by clear E1;(try simp only [sR,wk,ax,da,aZ] at*);(try rw [dp ‹¬iv v=0›]);(try simp only [cH hv,dn,gw hv (Tt rfl),gx hv (Tt rfl),ey hv,ez hv]);simp [*])
theorem B2 (h:Int) (g0:0≤h) (g1:h≤255) (hq:jm h=true) (hh:¬h=102):aF Tryz.prog 142 ([.aj .no 1 (.int .u8 h:: [])]) (.aC [da (mi (if h / 8%2=1 then 64 else 32) (h%2*8)),.bool false]):=by
 have c0:= @bN h ([])
 have c1:= @bN h ([])
 have c2:= @kY h g0 g1 hq
 let E1:EL:= [.ret _ _ _ c0,tC (by simp [aN]<;>omega:(h==102)=false),.ret _ _ _ c1,.ret _ _ _ c2,tT,tT]
 rcases ef (decide (h / 8%2=1)) with h3|h3
 ·exact (fK (d:= .aC [.agg [.int .i8 64,.bool false,.int .u8 0,.int .i8 0,.int .i8 0,.int .i64 0,.int .i64 0,.int .i64 0,.int .i64 0,.int .i64 0,.int .i8 (h%2*8)],.bool false]) (E1++ [tC h3,tT]) (by kernel_rfl)).to (by clear E1;first|(simp [wk,ax,da,mi, *];done)|(simp only [decide_eq_true_eq,decide_eq_false_iff_not] at*;simp [wk,ax,da,mi, *]))
 exact (fK (d:= .aC [.agg [.int .i8 32,.bool false,.int .u8 0,.int .i8 0,.int .i8 0,.int .i64 0,.int .i64 0,.int .i64 0,.int .i64 0,.int .i64 0,.int .i8 (h%2*8)],.bool false]) (E1++ [tC h3,tT]) (by kernel_rfl)).to (by clear E1;first|(simp [wk,ax,da,mi, *];done)|(simp only [decide_eq_true_eq,decide_eq_false_iff_not] at*;simp [wk,ax,da,mi, *]))
theorem B4 (h:Int) (g0:0≤h) (g1:h≤255) (hq:jm h=true) (hh:¬h=102) (d:Int) (v:List Int) (hv:fO v):aF Tryz.prog 142 ([.aj .no 1 (.int .u8 h:: .int .u8 15:: .int .u8 d::bD v)]) (.aC [da (aZ (if h / 8%2=1 then 64 else 32) (h / 4%2*8) (h%2*8) true d v),.bool true]):=by
 have c0:= @bN h (.int .u8 15:: .int .u8 d::bD v)
 have c1:= @bN h (.int .u8 15:: .int .u8 d::bD v)
 have c2:= @kY h g0 g1 hq
 let E1:EL:= [.ret _ _ _ c0,tC (by simp [aN]<;>omega:(h==(102:Int))=false),.ret _ _ _ c1,.ret _ _ _ c2,tT,.cQ (decide ((0:Int)≤(1:Int)∧(1:Int)≤(↑(SA (.int .u8 h:: .int .u8 15:: .int .u8 d::bD v)):Int))) true (by simp [aN]<;>omega)]
 rcases ef (decide (h / (8:Int)%(2:Int)=(1:Int))) with h3|h3
 ·have c4:= @kD v hv
  let E2:EL:=E1++ [tC h3,tF,.get (.int .u8 15:: .int .u8 d::bD v) 0 (.int .u8 15) rfl,.cQ (decide ((0:Int)≤(1:Int)∧(1:Int)≤(↑(SA (Tv (Sz (1:Int)) (.int .u8 h:: .int .u8 15:: .int .u8 d::bD v))):Int))) true (by simp [aN]<;>omega),tT,tT,tT,tT,tC (aY 0 (by simp [aN]<;>omega:(decide ((↑(SA (.int .u8 d::bD v)):Int)<(1:Int)))=false)),.get (.int .u8 d::bD v) 0 (.int .u8 d) rfl,.cQ (decide ((0:Int)≤(1:Int)∧(1:Int)≤(↑(SA (Tv (Sz (1:Int)) (Tv (Sz (1:Int)) (.int .u8 h:: .int .u8 15:: .int .u8 d::bD v)))):Int))) true (by simp [aN]<;>omega),.ret _ _ _ c4]
  by_cases h5:iv v=0
  ·have c6:= @dS v hv
   have c7:= @dT v
   have c8:= @bm v hv
   have c9:= @bn v
   exact (fK (d:= .aC [.agg [.int .i8 64,.bool true,.int .u8 d,.int .i8 (T8.wrap T8.i8 (↑(SF (Sy (8:Nat) (iB v)|||Sy (8:Nat) (h / (4:Int)%(2:Int)*(8:Int)))):Int)),.int .i8 (T8.wrap T8.i8 (↑(SF (Sy (8:Nat) (iC v)|||Sy (8:Nat) (h%(2:Int)*(8:Int)))):Int)),.int .i64 (jH v),.int .i64 (gl v (fR v)),.int .i64 (T8.i64.wrap (fG v (fR v))),.int .i64 (gl v (0:Nat)),.int .i64 (T8.i64.wrap (T8.wrap T8.i8 (fG v (0:Nat)))),.int .i8 (h%(2:Int)*(8:Int))],.bool true]) (E2++ [tC (nt (dx 0 true h5)),.ret _ _ _ c6,.ret _ _ _ c7,.ret _ _ _ c8,.ret _ _ _ c9]) (by kernel_rfl)).to (by clear E1 E2;(try simp only [sR,wk,ax,da,aZ] at*);(try rw [dp ‹¬iv v=0›]);(try simp only [cH hv,dn,gw hv (Tt rfl),gx hv (Tt rfl),ey hv,ez hv]);simp [*])
  have LZ:= @bm v hv
  have Nb:= @bn v
  have Nz:= @bm v hv
  have MB:= @bn v
  exact (fK (d:= .aC [.agg [.int .i8 64,.bool true,.int .u8 d,.int .i8 (T8.wrap T8.i8 (↑(SF (Sy (8:Nat) (iB v)|||Sy (8:Nat) (h / (4:Int)%(2:Int)*(8:Int)))):Int)),.int .i8 (T8.wrap T8.i8 (↑(SF (Sy (8:Nat) (iC v)|||Sy (8:Nat) (h%(2:Int)*(8:Int)))):Int)),.int .i64 (jH v),.int .i64 (gl v (0:Nat)),.int .i64 (T8.i64.wrap (fG v (0:Nat))),.int .i64 (gl v (0:Nat)),.int .i64 (T8.i64.wrap (T8.wrap T8.i8 (fG v (0:Nat)))),.int .i8 (h%(2:Int)*(8:Int))],.bool true]) (E2++ [tC (nt (aw h5)),.ret _ _ _ LZ,.ret _ _ _ Nb,.ret _ _ _ Nz,.ret _ _ _ MB]) (by kernel_rfl)).to (by clear E1 E2;(try simp only [sR,wk,ax,da,aZ] at*);(try rw [dp ‹¬iv v=0›]);(try simp only [cH hv,dn,gw hv (Tt rfl),gx hv (Tt rfl),ey hv,ez hv]);simp [*])
 have Oc:= @kD v hv
 let E3:EL:=E1++ [tC h3,tF,.get (.int .u8 15:: .int .u8 d::bD v) 0 (.int .u8 15) rfl,.cQ (decide ((0:Int)≤(1:Int)∧(1:Int)≤(↑(SA (Tv (Sz (1:Int)) (.int .u8 h:: .int .u8 15:: .int .u8 d::bD v))):Int))) true (by simp [aN]<;>omega),tT,tT,tT,tT,tC (aY 0 (by simp [aN]<;>omega:(decide ((↑(SA (.int .u8 d::bD v)):Int)<(1:Int)))=false)),.get (.int .u8 d::bD v) 0 (.int .u8 d) rfl,.cQ (decide ((0:Int)≤(1:Int)∧(1:Int)≤(↑(SA (Tv (Sz (1:Int)) (Tv (Sz (1:Int)) (.int .u8 h:: .int .u8 15:: .int .u8 d::bD v)))):Int))) true (by simp [aN]<;>omega),.ret _ _ _ Oc]
 by_cases h15:iv v=0
 ·have MS:= @dS v hv
  have Pw:= @dT v
  have Qd:= @bm v hv
  have M9:= @bn v
  exact (fK (d:= .aC [.agg [.int .i8 32,.bool true,.int .u8 d,.int .i8 (T8.wrap T8.i8 (↑(SF (Sy (8:Nat) (iB v)|||Sy (8:Nat) (h / (4:Int)%(2:Int)*(8:Int)))):Int)),.int .i8 (T8.wrap T8.i8 (↑(SF (Sy (8:Nat) (iC v)|||Sy (8:Nat) (h%(2:Int)*(8:Int)))):Int)),.int .i64 (jH v),.int .i64 (gl v (fR v)),.int .i64 (T8.i64.wrap (fG v (fR v))),.int .i64 (gl v (0:Nat)),.int .i64 (T8.i64.wrap (T8.wrap T8.i8 (fG v (0:Nat)))),.int .i8 (h%(2:Int)*(8:Int))],.bool true]) (E3++ [tC (nt (dx 0 true h15)),.ret _ _ _ MS,.ret _ _ _ Pw,.ret _ _ _ Qd,.ret _ _ _ M9]) (by kernel_rfl)).to (by clear E1 E3;(try simp only [sR,wk,ax,da,aZ] at*);(try rw [dp ‹¬iv v=0›]);(try simp only [cH hv,dn,gw hv (Tt rfl),gx hv (Tt rfl),ey hv,ez hv]);simp [*])
 have OW:= @bm v hv
 have Po:= @bn v
 have OJ:= @bm v hv
 have NT:= @bn v
 exact (fK (d:= .aC [.agg [.int .i8 32,.bool true,.int .u8 d,.int .i8 (T8.wrap T8.i8 (↑(SF (Sy (8:Nat) (iB v)|||Sy (8:Nat) (h / (4:Int)%(2:Int)*(8:Int)))):Int)),.int .i8 (T8.wrap T8.i8 (↑(SF (Sy (8:Nat) (iC v)|||Sy (8:Nat) (h%(2:Int)*(8:Int)))):Int)),.int .i64 (jH v),.int .i64 (gl v (0:Nat)),.int .i64 (T8.i64.wrap (fG v (0:Nat))),.int .i64 (gl v (0:Nat)),.int .i64 (T8.i64.wrap (T8.wrap T8.i8 (fG v (0:Nat)))),.int .i8 (h%(2:Int)*(8:Int))],.bool true]) (E3++ [tC (nt (aw h15)),.ret _ _ _ OW,.ret _ _ _ Po,.ret _ _ _ OJ,.ret _ _ _ NT]) (by kernel_rfl)).to (by clear E1 E3;(try simp only [sR,wk,ax,da,aZ] at*);(try rw [dp ‹¬iv v=0›]);(try simp only [cH hv,dn,gw hv (Tt rfl),gx hv (Tt rfl),ey hv,ez hv]);simp [*])
theorem B5 (h:Int) (g0:0≤h) (g1:h≤255) (hq:jm h=true) (hh:¬h=102):aF Tryz.prog 142 ([.aj .no 1 (.int .u8 h:: .int .u8 15:: [])]) (.aC [da (aZ (if h / 8%2=1 then 64 else 32) (h / 4%2*8) (h%2*8) false 15 []),.bool true]):=by
 have c0:= @bN h ([.int .u8 15])
 have c1:= @bN h ([.int .u8 15])
 have c2:= @kY h g0 g1 hq
 let E1:EL:= [.ret _ _ _ c0,tC (by simp [aN]<;>omega:(h==102)=false),.ret _ _ _ c1,.ret _ _ _ c2,tT,tT]
 rcases ef (decide (h / 8%2=1)) with h3|h3
 ·have c4:= @hU
  have c5:= @dE
  have c6:= @dE
  exact (fK (d:= .aC [.agg [.int .i8 64,.bool false,.int .u8 15,.int .i8 (T8.wrap T8.i8 (↑(SF (Sy (8:Nat) 0|||Sy (8:Nat) (h / 4%2*8))):Int)),.int .i8 (T8.wrap T8.i8 (↑(SF (Sy (8:Nat) 0|||Sy (8:Nat) (h%2*8))):Int)),.int .i64 0,.int .i64 0,.int .i64 0,.int .i64 0,.int .i64 0,.int .i8 (h%2*8)],.bool true]) (E1++ [tC h3,tF,.get ([.int .u8 15]) 0 (.int .u8 15) rfl,tT,tT,tT,tT,tT,tF,.ret _ _ _ c4,tT,.inl,tT,.ret _ _ _ c5,.inl,tT,.ret _ _ _ c6]) (by kernel_rfl)).to (by clear E1;(try simp only [sR,wk,ax,da,aZ] at*);(try rw [dp ‹¬iv []=0›]);(try simp only [cH gy,dn,gw gy (Tt rfl),gx gy (Tt rfl),ey gy,ez gy]);simp [*,iB,iC,jH,fR,gl,fG,dH,kK];omega)
 have c7:= @hU
 have c8:= @dE
 have c9:= @dE
 exact (fK (d:= .aC [.agg [.int .i8 32,.bool false,.int .u8 15,.int .i8 (T8.wrap T8.i8 (↑(SF (Sy (8:Nat) 0|||Sy (8:Nat) (h / 4%2*8))):Int)),.int .i8 (T8.wrap T8.i8 (↑(SF (Sy (8:Nat) 0|||Sy (8:Nat) (h%2*8))):Int)),.int .i64 0,.int .i64 0,.int .i64 0,.int .i64 0,.int .i64 0,.int .i8 (h%2*8)],.bool true]) (E1++ [tC h3,tF,.get ([.int .u8 15]) 0 (.int .u8 15) rfl,tT,tT,tT,tT,tT,tF,.ret _ _ _ c7,tT,.inl,tT,.ret _ _ _ c8,.inl,tT,.ret _ _ _ c9]) (by kernel_rfl)).to (by clear E1;(try simp only [sR,wk,ax,da,aZ] at*);(try rw [dp ‹¬iv []=0›]);(try simp only [cH gy,dn,gw gy (Tt rfl),gx gy (Tt rfl),ey gy,ez gy]);simp [*,iB,iC,jH,fR,gl,fG,dH,kK];omega)
theorem B3 (h:Int) (g0:0≤h) (g1:h≤255) (hq:jm h=true) (hh:¬h=102) (c:Int) (hc:¬c=15) (v:List Int) (hv:fO v):aF Tryz.prog 142 ([.aj .no 1 (.int .u8 h:: .int .u8 c::bD v)]) (.aC [da (aZ (if h / 8%2=1 then 64 else 32) (h / 4%2*8) (h%2*8) false c v),.bool true]):=by
 have c0:= @bN h (.int .u8 c::bD v)
 have c1:= @bN h (.int .u8 c::bD v)
 have c2:= @kY h g0 g1 hq
 let E1:EL:= [.ret _ _ _ c0,tC (by simp [aN]<;>omega:(h==(102:Int))=false),.ret _ _ _ c1,.ret _ _ _ c2,tT,.cQ (decide ((0:Int)≤(1:Int)∧(1:Int)≤(↑(SA (.int .u8 h:: .int .u8 c::bD v)):Int))) true (by simp [aN]<;>omega)]
 rcases ef (decide (h / (8:Int)%(2:Int)=(1:Int))) with h3|h3
 ·have c4:= @kD v hv
  let E2:EL:=E1++ [tC h3,tF,.get (.int .u8 c::bD v) 0 (.int .u8 c) rfl,.cQ (decide ((0:Int)≤(1:Int)∧(1:Int)≤(↑(SA (Tv (Sz (1:Int)) (.int .u8 h:: .int .u8 c::bD v))):Int))) true (by simp [aN]<;>omega)]++Sx 3 (tC (eT (by simp [aN]<;>omega:(c==(15:Int))=false)))++ [tC (by simp [aN]<;>omega:(c==(15:Int))=false),tF,.ret _ _ _ c4]
  by_cases h5:iv v=0
  ·have c6:= @dS v hv
   have c7:= @dT v
   have c8:= @bm v hv
   have c9:= @bn v
   exact (fK (d:= .aC [.agg [.int .i8 64,.bool false,.int .u8 c,.int .i8 (T8.wrap T8.i8 (↑(SF (Sy (8:Nat) (iB v)|||Sy (8:Nat) (h / (4:Int)%(2:Int)*(8:Int)))):Int)),.int .i8 (T8.wrap T8.i8 (↑(SF (Sy (8:Nat) (iC v)|||Sy (8:Nat) (h%(2:Int)*(8:Int)))):Int)),.int .i64 (jH v),.int .i64 (gl v (fR v)),.int .i64 (T8.i64.wrap (fG v (fR v))),.int .i64 (gl v (0:Nat)),.int .i64 (T8.i64.wrap (T8.wrap T8.i8 (fG v (0:Nat)))),.int .i8 (h%(2:Int)*(8:Int))],.bool true]) (E2++ [tC (nt (dx 0 true h5)),.ret _ _ _ c6,.ret _ _ _ c7,.ret _ _ _ c8,.ret _ _ _ c9]) (by kernel_rfl)).to (by clear E1 E2;(try simp only [sR,wk,ax,da,aZ] at*);(try rw [dp ‹¬iv v=0›]);(try simp only [cH hv,dn,gw hv (Tt rfl),gx hv (Tt rfl),ey hv,ez hv]);simp [*])
  have LZ:= @bm v hv
  have Nb:= @bn v
  have Nz:= @bm v hv
  have MB:= @bn v
  exact (fK (d:= .aC [.agg [.int .i8 64,.bool false,.int .u8 c,.int .i8 (T8.wrap T8.i8 (↑(SF (Sy (8:Nat) (iB v)|||Sy (8:Nat) (h / (4:Int)%(2:Int)*(8:Int)))):Int)),.int .i8 (T8.wrap T8.i8 (↑(SF (Sy (8:Nat) (iC v)|||Sy (8:Nat) (h%(2:Int)*(8:Int)))):Int)),.int .i64 (jH v),.int .i64 (gl v (0:Nat)),.int .i64 (T8.i64.wrap (fG v (0:Nat))),.int .i64 (gl v (0:Nat)),.int .i64 (T8.i64.wrap (T8.wrap T8.i8 (fG v (0:Nat)))),.int .i8 (h%(2:Int)*(8:Int))],.bool true]) (E2++ [tC (nt (aw h5)),.ret _ _ _ LZ,.ret _ _ _ Nb,.ret _ _ _ Nz,.ret _ _ _ MB]) (by kernel_rfl)).to (by clear E1 E2;(try simp only [sR,wk,ax,da,aZ] at*);(try rw [dp ‹¬iv v=0›]);(try simp only [cH hv,dn,gw hv (Tt rfl),gx hv (Tt rfl),ey hv,ez hv]);simp [*])
 have Oc:= @kD v hv
 let E3:EL:=E1++ [tC h3,tF,.get (.int .u8 c::bD v) 0 (.int .u8 c) rfl,.cQ (decide ((0:Int)≤(1:Int)∧(1:Int)≤(↑(SA (Tv (Sz (1:Int)) (.int .u8 h:: .int .u8 c::bD v))):Int))) true (by simp [aN]<;>omega)]++Sx 3 (tC (eT (by simp [aN]<;>omega:(c==(15:Int))=false)))++ [tC (by simp [aN]<;>omega:(c==(15:Int))=false),tF,.ret _ _ _ Oc]
 by_cases h15:iv v=0
 ·have MS:= @dS v hv
  have Pw:= @dT v
  have Qd:= @bm v hv
  have M9:= @bn v
  exact (fK (d:= .aC [.agg [.int .i8 32,.bool false,.int .u8 c,.int .i8 (T8.wrap T8.i8 (↑(SF (Sy (8:Nat) (iB v)|||Sy (8:Nat) (h / (4:Int)%(2:Int)*(8:Int)))):Int)),.int .i8 (T8.wrap T8.i8 (↑(SF (Sy (8:Nat) (iC v)|||Sy (8:Nat) (h%(2:Int)*(8:Int)))):Int)),.int .i64 (jH v),.int .i64 (gl v (fR v)),.int .i64 (T8.i64.wrap (fG v (fR v))),.int .i64 (gl v (0:Nat)),.int .i64 (T8.i64.wrap (T8.wrap T8.i8 (fG v (0:Nat)))),.int .i8 (h%(2:Int)*(8:Int))],.bool true]) (E3++ [tC (nt (dx 0 true h15)),.ret _ _ _ MS,.ret _ _ _ Pw,.ret _ _ _ Qd,.ret _ _ _ M9]) (by kernel_rfl)).to (by clear E1 E3;(try simp only [sR,wk,ax,da,aZ] at*);(try rw [dp ‹¬iv v=0›]);(try simp only [cH hv,dn,gw hv (Tt rfl),gx hv (Tt rfl),ey hv,ez hv]);simp [*])
 have OW:= @bm v hv
 have Po:= @bn v
 have OJ:= @bm v hv
 have NT:= @bn v
 exact (fK (d:= .aC [.agg [.int .i8 32,.bool false,.int .u8 c,.int .i8 (T8.wrap T8.i8 (↑(SF (Sy (8:Nat) (iB v)|||Sy (8:Nat) (h / (4:Int)%(2:Int)*(8:Int)))):Int)),.int .i8 (T8.wrap T8.i8 (↑(SF (Sy (8:Nat) (iC v)|||Sy (8:Nat) (h%(2:Int)*(8:Int)))):Int)),.int .i64 (jH v),.int .i64 (gl v (0:Nat)),.int .i64 (T8.i64.wrap (fG v (0:Nat))),.int .i64 (gl v (0:Nat)),.int .i64 (T8.i64.wrap (T8.wrap T8.i8 (fG v (0:Nat)))),.int .i8 (h%(2:Int)*(8:Int))],.bool true]) (E3++ [tC (nt (aw h15)),.ret _ _ _ OW,.ret _ _ _ Po,.ret _ _ _ OJ,.ret _ _ _ NT]) (by kernel_rfl)).to (by clear E1 E3;(try simp only [sR,wk,ax,da,aZ] at*);(try rw [dp ‹¬iv v=0›]);(try simp only [cH hv,dn,gw hv (Tt rfl),gx hv (Tt rfl),ey hv,ez hv]);simp [*])
theorem B6:aF Tryz.prog 142 ([.aj .no 1 (.int .u8 102:: [])]) (.aC [da (mi 16 0),.bool false]):=by
 have c0:= @bN 102 ([])
 have c1:= @dE
 have c2:= @k7 0 (by decide) (by decide) (rfl:false=false)
 exact (fK (d:= .aC [.agg [.int .i8 16,.bool false,.int .u8 0,.int .i8 0,.int .i8 0,.int .i64 0,.int .i64 0,.int .i64 0,.int .i64 0,.int .i64 0,.int .i8 0],.bool false]) [.ret _ _ _ c0,tT,tT,.ret _ _ _ c1,.ret _ _ _ c2,tF,tT] (by kernel_rfl)).to (by first|(simp [wk,ax,da,mi, *];done)|(simp only [decide_eq_true_eq,decide_eq_false_iff_not] at*;simp [wk,ax,da,mi, *]))
theorem B8 (d:Int) (v:List Int) (hv:fO v):aF Tryz.prog 142 ([.aj .no 1 (.int .u8 102:: .int .u8 15:: .int .u8 d::bD v)]) (.aC [da (aZ 16 0 0 true d v),.bool true]):=by
 have c0:= @bN 102 (.int .u8 15:: .int .u8 d::bD v)
 have c1:= @bN 15 (.int .u8 d::bD v)
 have c2:= @k7 15 (by first|rfl|decide) (by first|rfl|decide) (rfl:false=false)
 have c3:= @kD v hv
 let E1:EL:= [.ret _ _ _ c0,tT,.cQ (decide ((0:Int)≤(1:Int)∧(1:Int)≤(↑(SA (.int .u8 102:: .int .u8 15:: .int .u8 d::bD v)):Int))) true (by simp [aN]<;>omega),.ret _ _ _ c1,.ret _ _ _ c2,tF,tF,.get (.int .u8 15:: .int .u8 d::bD v) 0 (.int .u8 15) rfl,.cQ (decide ((0:Int)≤(1:Int)∧(1:Int)≤(↑(SA (Tv (Sz (1:Int)) (.int .u8 102:: .int .u8 15:: .int .u8 d::bD v))):Int))) true (by simp [aN]<;>omega),tT,tT,tT,tT,tC (aY 0 (by simp [aN]<;>omega:(decide ((↑(SA (.int .u8 d::bD v)):Int)<(1:Int)))=false)),.get (.int .u8 d::bD v) 0 (.int .u8 d) rfl,.cQ (decide ((0:Int)≤(1:Int)∧(1:Int)≤(↑(SA (Tv (Sz (1:Int)) (Tv (Sz (1:Int)) (.int .u8 102:: .int .u8 15:: .int .u8 d::bD v)))):Int))) true (by simp [aN]<;>omega),.ret _ _ _ c3]
 by_cases h4:iv v=0
 ·have c5:= @dS v hv
  have c6:= @dT v
  have c7:= @bm v hv
  have c8:= @bn v
  exact (fK (d:= .aC [.agg [.int .i8 16,.bool true,.int .u8 d,.int .i8 (T8.wrap T8.i8 (↑(SF (Sy (8:Nat) (iB v)|||Sy (8:Nat) (0:Int))):Int)),.int .i8 (T8.wrap T8.i8 (↑(SF (Sy (8:Nat) (iC v)|||Sy (8:Nat) (0:Int))):Int)),.int .i64 (jH v),.int .i64 (gl v (fR v)),.int .i64 (T8.i64.wrap (fG v (fR v))),.int .i64 (gl v (0:Nat)),.int .i64 (T8.i64.wrap (T8.wrap T8.i8 (fG v (0:Nat)))),.int .i8 0],.bool true]) (E1++ [tC (nt (dx 0 true h4)),.ret _ _ _ c5,.ret _ _ _ c6,.ret _ _ _ c7,.ret _ _ _ c8]) (by kernel_rfl)).to (by clear E1;(try simp only [sR,wk,ax,da,aZ] at*);(try rw [dp ‹¬iv v=0›]);(try simp only [cH hv,dn,gw hv (Tt rfl),gx hv (Tt rfl),ey hv,ez hv]);simp [*])
 have c9:= @bm v hv
 have LZ:= @bn v
 have Nb:= @bm v hv
 have Nz:= @bn v
 exact (fK (d:= .aC [.agg [.int .i8 16,.bool true,.int .u8 d,.int .i8 (T8.wrap T8.i8 (↑(SF (Sy (8:Nat) (iB v)|||Sy (8:Nat) (0:Int))):Int)),.int .i8 (T8.wrap T8.i8 (↑(SF (Sy (8:Nat) (iC v)|||Sy (8:Nat) (0:Int))):Int)),.int .i64 (jH v),.int .i64 (gl v (0:Nat)),.int .i64 (T8.i64.wrap (fG v (0:Nat))),.int .i64 (gl v (0:Nat)),.int .i64 (T8.i64.wrap (T8.wrap T8.i8 (fG v (0:Nat)))),.int .i8 0],.bool true]) (E1++ [tC (nt (aw h4)),.ret _ _ _ c9,.ret _ _ _ LZ,.ret _ _ _ Nb,.ret _ _ _ Nz]) (by kernel_rfl)).to (by clear E1;(try simp only [sR,wk,ax,da,aZ] at*);(try rw [dp ‹¬iv v=0›]);(try simp only [cH hv,dn,gw hv (Tt rfl),gx hv (Tt rfl),ey hv,ez hv]);simp [*])
theorem B9:aF Tryz.prog 142 ([.aj .no 1 (.int .u8 102:: .int .u8 15:: [])]) (.aC [da (aZ 16 0 0 false 15 []),.bool true]):=by
 have c0:= @bN 102 ([.int .u8 15])
 have c1:= @bN 15 ([])
 have c2:= @k7 15 (by decide) (by decide) (rfl:false=false)
 have c3:= @hU
 have c4:= @dE
 have c5:= @dE
 exact (fK (d:= .aC [.agg [.int .i8 16,.bool false,.int .u8 15,.int .i8 0,.int .i8 0,.int .i64 0,.int .i64 0,.int .i64 0,.int .i64 0,.int .i64 0,.int .i8 0],.bool true]) [.ret _ _ _ c0,tT,tT,.ret _ _ _ c1,.ret _ _ _ c2,tF,tF,.get ([.int .u8 15]) 0 (.int .u8 15) rfl,tT,tT,tT,tT,tT,tF,.ret _ _ _ c3,tT,.inl,tT,.ret _ _ _ c4,.inl,tT,.ret _ _ _ c5] (by kernel_rfl)).to (by (try simp only [sR,wk,ax,da,aZ] at*);(try rw [dp ‹¬iv []=0›]);(try simp only [cH gy,dn,gw gy (Tt rfl),gx gy (Tt rfl),ey gy,ez gy]);simp [*,iB,iC,jH,fR,gl,fG,dH])
theorem B7 (c:Int) (k0:0≤c) (k1:c≤255) (hq:jm c=false) (hc:¬c=15) (v:List Int) (hv:fO v):aF Tryz.prog 142 ([.aj .no 1 (.int .u8 102:: .int .u8 c::bD v)]) (.aC [da (aZ 16 0 0 false c v),.bool true]):=by
 have c0:= @bN 102 (.int .u8 c::bD v)
 have c1:= @bN c (bD v)
 have c2:= @k7 c k0 k1 hq
 have c3:= @kD v hv
 let E1:EL:=([.ret _ _ _ c0,tT,.cQ (decide ((0:Int)≤(1:Int)∧(1:Int)≤(↑(SA (.int .u8 102:: .int .u8 c::bD v)):Int))) true (by simp [aN]<;>omega),.ret _ _ _ c1,.ret _ _ _ c2,tF,tF,.get (.int .u8 c::bD v) 0 (.int .u8 c) rfl,.cQ (decide ((0:Int)≤(1:Int)∧(1:Int)≤(↑(SA (Tv (Sz (1:Int)) (.int .u8 102:: .int .u8 c::bD v))):Int))) true (by simp [aN]<;>omega)]++Sx 3 (tC (eT (by simp [aN]<;>omega:(c==(15:Int))=false)))++ [tC (by simp [aN]<;>omega:(c==(15:Int))=false),tF,.ret _ _ _ c3])
 by_cases h4:iv v=0
 ·have c5:= @dS v hv
  have c6:= @dT v
  have c7:= @bm v hv
  have c8:= @bn v
  exact (fK (d:= .aC [.agg [.int .i8 16,.bool false,.int .u8 c,.int .i8 (T8.wrap T8.i8 (↑(SF (Sy (8:Nat) (iB v)|||Sy (8:Nat) (0:Int))):Int)),.int .i8 (T8.wrap T8.i8 (↑(SF (Sy (8:Nat) (iC v)|||Sy (8:Nat) (0:Int))):Int)),.int .i64 (jH v),.int .i64 (gl v (fR v)),.int .i64 (T8.i64.wrap (fG v (fR v))),.int .i64 (gl v (0:Nat)),.int .i64 (T8.i64.wrap (T8.wrap T8.i8 (fG v (0:Nat)))),.int .i8 0],.bool true]) (E1++ [tC (nt (dx 0 true h4)),.ret _ _ _ c5,.ret _ _ _ c6,.ret _ _ _ c7,.ret _ _ _ c8]) (by kernel_rfl)).to (by clear E1;(try simp only [sR,wk,ax,da,aZ] at*);(try rw [dp ‹¬iv v=0›]);(try simp only [cH hv,dn,gw hv (Tt rfl),gx hv (Tt rfl),ey hv,ez hv]);simp [*])
 have c9:= @bm v hv
 have LZ:= @bn v
 have Nb:= @bm v hv
 have Nz:= @bn v
 exact (fK (d:= .aC [.agg [.int .i8 16,.bool false,.int .u8 c,.int .i8 (T8.wrap T8.i8 (↑(SF (Sy (8:Nat) (iB v)|||Sy (8:Nat) (0:Int))):Int)),.int .i8 (T8.wrap T8.i8 (↑(SF (Sy (8:Nat) (iC v)|||Sy (8:Nat) (0:Int))):Int)),.int .i64 (jH v),.int .i64 (gl v (0:Nat)),.int .i64 (T8.i64.wrap (fG v (0:Nat))),.int .i64 (gl v (0:Nat)),.int .i64 (T8.i64.wrap (T8.wrap T8.i8 (fG v (0:Nat)))),.int .i8 0],.bool true]) (E1++ [tC (nt (aw h4)),.ret _ _ _ c9,.ret _ _ _ LZ,.ret _ _ _ Nb,.ret _ _ _ Nz]) (by kernel_rfl)).to (by clear E1;(try simp only [sR,wk,ax,da,aZ] at*);(try rw [dp ‹¬iv v=0›]);(try simp only [cH hv,dn,gw hv (Tt rfl),gx hv (Tt rfl),ey hv,ez hv]);simp [*])
theorem Ca (h:Int) (g0:0≤h) (g1:h≤255) (hq:jm h=true):aF Tryz.prog 142 ([.aj .no 1 (.int .u8 102:: .int .u8 h:: [])]) (.aC [da (mi (if h / 8%2=1 then 64 else 16) (h%2*8)),.bool false]):=by
 have c0:= @bN 102 ([.int .u8 h])
 have c1:= @bN h ([])
 have c2:= @kY h g0 g1 hq
 rcases ef (decide (h / 8%2=1)) with h3|h3
 ·exact (fK (d:= .aC [.agg [.int .i8 64,.bool false,.int .u8 0,.int .i8 0,.int .i8 0,.int .i64 0,.int .i64 0,.int .i64 0,.int .i64 0,.int .i64 0,.int .i8 (h%2*8)],.bool false]) [.ret _ _ _ c0,tT,tT,.ret _ _ _ c1,.ret _ _ _ c2,tT,tT,tC h3,tT] (by kernel_rfl)).to (by first|(simp [wk,ax,da,mi, *];done)|(simp only [decide_eq_true_eq,decide_eq_false_iff_not] at*;simp [wk,ax,da,mi, *]))
 exact (fK (d:= .aC [.agg [.int .i8 16,.bool false,.int .u8 0,.int .i8 0,.int .i8 0,.int .i64 0,.int .i64 0,.int .i64 0,.int .i64 0,.int .i64 0,.int .i8 (h%2*8)],.bool false]) [.ret _ _ _ c0,tT,tT,.ret _ _ _ c1,.ret _ _ _ c2,tT,tT,tC h3,tT] (by kernel_rfl)).to (by first|(simp [wk,ax,da,mi, *];done)|(simp only [decide_eq_true_eq,decide_eq_false_iff_not] at*;simp [wk,ax,da,mi, *]))
theorem Cc (h:Int) (g0:0≤h) (g1:h≤255) (hq:jm h=true) (d:Int) (v:List Int) (hv:fO v):aF Tryz.prog 142 ([.aj .no 1 (.int .u8 102:: .int .u8 h:: .int .u8 15:: .int .u8 d::bD v)]) (.aC [da (aZ (if h / 8%2=1 then 64 else 16) (h / 4%2*8) (h%2*8) true d v),.bool true]):=by
 have c0:= @bN 102 (.int .u8 h:: .int .u8 15:: .int .u8 d::bD v)
 have c1:= @bN h (.int .u8 15:: .int .u8 d::bD v)
 have c2:= @kY h g0 g1 hq
 let E1:EL:= [.ret _ _ _ c0,tT,.cQ (decide ((0:Int)≤(1:Int)∧(1:Int)≤(↑(SA (.int .u8 102:: .int .u8 h:: .int .u8 15:: .int .u8 d::bD v)):Int))) true (by simp [aN]<;>omega),.ret _ _ _ c1,.ret _ _ _ c2,tT,.cQ (decide ((0:Int)≤(1:Int)∧(1:Int)≤(↑(SA (Tv (Sz (1:Int)) (.int .u8 102:: .int .u8 h:: .int .u8 15:: .int .u8 d::bD v))):Int))) true (by simp [aN]<;>omega)]
 rcases ef (decide (h / (8:Int)%(2:Int)=(1:Int))) with h3|h3
 ·have c4:= @kD v hv
  let E2:EL:=E1++ [tC h3,tF,.get (.int .u8 15:: .int .u8 d::bD v) 0 (.int .u8 15) rfl,.cQ (decide ((0:Int)≤(1:Int)∧(1:Int)≤(↑(SA (Tv (Sz (1:Int)) (Tv (Sz (1:Int)) (.int .u8 102:: .int .u8 h:: .int .u8 15:: .int .u8 d::bD v)))):Int))) true (by simp [aN]<;>omega),tT,tT,tT,tT,tC (aY 0 (by simp [aN]<;>omega:(decide ((↑(SA (.int .u8 d::bD v)):Int)<(1:Int)))=false)),.get (.int .u8 d::bD v) 0 (.int .u8 d) rfl,.cQ (decide ((0:Int)≤(1:Int)∧(1:Int)≤(↑(SA (Tv (Sz (1:Int)) (Tv (Sz (1:Int)) (Tv (Sz (1:Int)) (.int .u8 102:: .int .u8 h:: .int .u8 15:: .int .u8 d::bD v))))):Int))) true (by simp [aN]<;>omega),.ret _ _ _ c4]
  by_cases h5:iv v=0
  ·have c6:= @dS v hv
   have c7:= @dT v
   have c8:= @bm v hv
   have c9:= @bn v
   exact (fK (d:= .aC [.agg [.int .i8 64,.bool true,.int .u8 d,.int .i8 (T8.wrap T8.i8 (↑(SF (Sy (8:Nat) (iB v)|||Sy (8:Nat) (h / (4:Int)%(2:Int)*(8:Int)))):Int)),.int .i8 (T8.wrap T8.i8 (↑(SF (Sy (8:Nat) (iC v)|||Sy (8:Nat) (h%(2:Int)*(8:Int)))):Int)),.int .i64 (jH v),.int .i64 (gl v (fR v)),.int .i64 (T8.i64.wrap (fG v (fR v))),.int .i64 (gl v (0:Nat)),.int .i64 (T8.i64.wrap (T8.wrap T8.i8 (fG v (0:Nat)))),.int .i8 (h%(2:Int)*(8:Int))],.bool true]) (E2++ [tC (nt (dx 0 true h5)),.ret _ _ _ c6,.ret _ _ _ c7,.ret _ _ _ c8,.ret _ _ _ c9]) (by kernel_rfl)).to (by clear E1 E2;(try simp only [sR,wk,ax,da,aZ] at*);(try rw [dp ‹¬iv v=0›]);(try simp only [cH hv,dn,gw hv (Tt rfl),gx hv (Tt rfl),ey hv,ez hv]);simp [*])
  have LZ:= @bm v hv
  have Nb:= @bn v
  have Nz:= @bm v hv
  have MB:= @bn v
  exact (fK (d:= .aC [.agg [.int .i8 64,.bool true,.int .u8 d,.int .i8 (T8.wrap T8.i8 (↑(SF (Sy (8:Nat) (iB v)|||Sy (8:Nat) (h / (4:Int)%(2:Int)*(8:Int)))):Int)),.int .i8 (T8.wrap T8.i8 (↑(SF (Sy (8:Nat) (iC v)|||Sy (8:Nat) (h%(2:Int)*(8:Int)))):Int)),.int .i64 (jH v),.int .i64 (gl v (0:Nat)),.int .i64 (T8.i64.wrap (fG v (0:Nat))),.int .i64 (gl v (0:Nat)),.int .i64 (T8.i64.wrap (T8.wrap T8.i8 (fG v (0:Nat)))),.int .i8 (h%(2:Int)*(8:Int))],.bool true]) (E2++ [tC (nt (aw h5)),.ret _ _ _ LZ,.ret _ _ _ Nb,.ret _ _ _ Nz,.ret _ _ _ MB]) (by kernel_rfl)).to (by clear E1 E2;(try simp only [sR,wk,ax,da,aZ] at*);(try rw [dp ‹¬iv v=0›]);(try simp only [cH hv,dn,gw hv (Tt rfl),gx hv (Tt rfl),ey hv,ez hv]);simp [*])
 have Oc:= @kD v hv
 let E3:EL:=E1++ [tC h3,tF,.get (.int .u8 15:: .int .u8 d::bD v) 0 (.int .u8 15) rfl,.cQ (decide ((0:Int)≤(1:Int)∧(1:Int)≤(↑(SA (Tv (Sz (1:Int)) (Tv (Sz (1:Int)) (.int .u8 102:: .int .u8 h:: .int .u8 15:: .int .u8 d::bD v)))):Int))) true (by simp [aN]<;>omega),tT,tT,tT,tT,tC (aY 0 (by simp [aN]<;>omega:(decide ((↑(SA (.int .u8 d::bD v)):Int)<(1:Int)))=false)),.get (.int .u8 d::bD v) 0 (.int .u8 d) rfl,.cQ (decide ((0:Int)≤(1:Int)∧(1:Int)≤(↑(SA (Tv (Sz (1:Int)) (Tv (Sz (1:Int)) (Tv (Sz (1:Int)) (.int .u8 102:: .int .u8 h:: .int .u8 15:: .int .u8 d::bD v))))):Int))) true (by simp [aN]<;>omega),.ret _ _ _ Oc]
 by_cases h15:iv v=0
 ·have MS:= @dS v hv
  have Pw:= @dT v
  have Qd:= @bm v hv
  have M9:= @bn v
  exact (fK (d:= .aC [.agg [.int .i8 16,.bool true,.int .u8 d,.int .i8 (T8.wrap T8.i8 (↑(SF (Sy (8:Nat) (iB v)|||Sy (8:Nat) (h / (4:Int)%(2:Int)*(8:Int)))):Int)),.int .i8 (T8.wrap T8.i8 (↑(SF (Sy (8:Nat) (iC v)|||Sy (8:Nat) (h%(2:Int)*(8:Int)))):Int)),.int .i64 (jH v),.int .i64 (gl v (fR v)),.int .i64 (T8.i64.wrap (fG v (fR v))),.int .i64 (gl v (0:Nat)),.int .i64 (T8.i64.wrap (T8.wrap T8.i8 (fG v (0:Nat)))),.int .i8 (h%(2:Int)*(8:Int))],.bool true]) (E3++ [tC (nt (dx 0 true h15)),.ret _ _ _ MS,.ret _ _ _ Pw,.ret _ _ _ Qd,.ret _ _ _ M9]) (by kernel_rfl)).to (by clear E1 E3;(try simp only [sR,wk,ax,da,aZ] at*);(try rw [dp ‹¬iv v=0›]);(try simp only [cH hv,dn,gw hv (Tt rfl),gx hv (Tt rfl),ey hv,ez hv]);simp [*])
 have OW:= @bm v hv
 have Po:= @bn v
 have OJ:= @bm v hv
 have NT:= @bn v
 exact (fK (d:= .aC [.agg [.int .i8 16,.bool true,.int .u8 d,.int .i8 (T8.wrap T8.i8 (↑(SF (Sy (8:Nat) (iB v)|||Sy (8:Nat) (h / (4:Int)%(2:Int)*(8:Int)))):Int)),.int .i8 (T8.wrap T8.i8 (↑(SF (Sy (8:Nat) (iC v)|||Sy (8:Nat) (h%(2:Int)*(8:Int)))):Int)),.int .i64 (jH v),.int .i64 (gl v (0:Nat)),.int .i64 (T8.i64.wrap (fG v (0:Nat))),.int .i64 (gl v (0:Nat)),.int .i64 (T8.i64.wrap (T8.wrap T8.i8 (fG v (0:Nat)))),.int .i8 (h%(2:Int)*(8:Int))],.bool true]) (E3++ [tC (nt (aw h15)),.ret _ _ _ OW,.ret _ _ _ Po,.ret _ _ _ OJ,.ret _ _ _ NT]) (by kernel_rfl)).to (by clear E1 E3;(try simp only [sR,wk,ax,da,aZ] at*);(try rw [dp ‹¬iv v=0›]);(try simp only [cH hv,dn,gw hv (Tt rfl),gx hv (Tt rfl),ey hv,ez hv]);simp [*])
theorem Cd (h:Int) (g0:0≤h) (g1:h≤255) (hq:jm h=true):aF Tryz.prog 142 ([.aj .no 1 (.int .u8 102:: .int .u8 h:: .int .u8 15:: [])]) (.aC [da (aZ (if h / 8%2=1 then 64 else 16) (h / 4%2*8) (h%2*8) false 15 []),.bool true]):=by
 have c0:= @bN 102 ([.int .u8 h,.int .u8 15])
 have c1:= @bN h ([.int .u8 15])
 have c2:= @kY h g0 g1 hq
 rcases ef (decide (h / 8%2=1)) with h3|h3
 ·have c4:= @hU
  have c5:= @dE
  have c6:= @dE
  exact (fK (d:= .aC [.agg [.int .i8 64,.bool false,.int .u8 15,.int .i8 (T8.wrap T8.i8 (↑(SF (Sy (8:Nat) 0|||Sy (8:Nat) (h / 4%2*8))):Int)),.int .i8 (T8.wrap T8.i8 (↑(SF (Sy (8:Nat) 0|||Sy (8:Nat) (h%2*8))):Int)),.int .i64 0,.int .i64 0,.int .i64 0,.int .i64 0,.int .i64 0,.int .i8 (h%2*8)],.bool true]) [.ret _ _ _ c0,tT,tT,.ret _ _ _ c1,.ret _ _ _ c2,tT,tT,tC h3,tF,.get ([.int .u8 15]) 0 (.int .u8 15) rfl,tT,tT,tT,tT,tT,tF,.ret _ _ _ c4,tT,.inl,tT,.ret _ _ _ c5,.inl,tT,.ret _ _ _ c6] (by kernel_rfl)).to (by (try simp only [sR,wk,ax,da,aZ] at*);(try rw [dp ‹¬iv []=0›]);(try simp only [cH gy,dn,gw gy (Tt rfl),gx gy (Tt rfl),ey gy,ez gy]);simp [*,iB,iC,jH,fR,gl,fG,dH,kK];omega)
 have c7:= @hU
 have c8:= @dE
 have c9:= @dE
 exact (fK (d:= .aC [.agg [.int .i8 16,.bool false,.int .u8 15,.int .i8 (T8.wrap T8.i8 (↑(SF (Sy (8:Nat) 0|||Sy (8:Nat) (h / 4%2*8))):Int)),.int .i8 (T8.wrap T8.i8 (↑(SF (Sy (8:Nat) 0|||Sy (8:Nat) (h%2*8))):Int)),.int .i64 0,.int .i64 0,.int .i64 0,.int .i64 0,.int .i64 0,.int .i8 (h%2*8)],.bool true]) [.ret _ _ _ c0,tT,tT,.ret _ _ _ c1,.ret _ _ _ c2,tT,tT,tC h3,tF,.get ([.int .u8 15]) 0 (.int .u8 15) rfl,tT,tT,tT,tT,tT,tF,.ret _ _ _ c7,tT,.inl,tT,.ret _ _ _ c8,.inl,tT,.ret _ _ _ c9] (by kernel_rfl)).to (by (try simp only [sR,wk,ax,da,aZ] at*);(try rw [dp ‹¬iv []=0›]);(try simp only [cH gy,dn,gw gy (Tt rfl),gx gy (Tt rfl),ey gy,ez gy]);simp [*,iB,iC,jH,fR,gl,fG,dH,kK];omega)
theorem Cb (h:Int) (g0:0≤h) (g1:h≤255) (hq:jm h=true) (c:Int) (hc:¬c=15) (v:List Int) (hv:fO v):aF Tryz.prog 142 ([.aj .no 1 (.int .u8 102:: .int .u8 h:: .int .u8 c::bD v)]) (.aC [da (aZ (if h / 8%2=1 then 64 else 16) (h / 4%2*8) (h%2*8) false c v),.bool true]):=by
 have c0:= @bN 102 (.int .u8 h:: .int .u8 c::bD v)
 have c1:= @bN h (.int .u8 c::bD v)
 have c2:= @kY h g0 g1 hq
 let E1:EL:= [.ret _ _ _ c0,tT,.cQ (decide ((0:Int)≤(1:Int)∧(1:Int)≤(↑(SA (.int .u8 102:: .int .u8 h:: .int .u8 c::bD v)):Int))) true (by simp [aN]<;>omega),.ret _ _ _ c1,.ret _ _ _ c2,tT,.cQ (decide ((0:Int)≤(1:Int)∧(1:Int)≤(↑(SA (Tv (Sz (1:Int)) (.int .u8 102:: .int .u8 h:: .int .u8 c::bD v))):Int))) true (by simp [aN]<;>omega)]
 rcases ef (decide (h / (8:Int)%(2:Int)=(1:Int))) with h3|h3
 ·have c4:= @kD v hv
  let E2:EL:=E1++ [tC h3,tF,.get (.int .u8 c::bD v) 0 (.int .u8 c) rfl,.cQ (decide ((0:Int)≤(1:Int)∧(1:Int)≤(↑(SA (Tv (Sz (1:Int)) (Tv (Sz (1:Int)) (.int .u8 102:: .int .u8 h:: .int .u8 c::bD v)))):Int))) true (by simp [aN]<;>omega)]++Sx 3 (tC (eT (by simp [aN]<;>omega:(c==(15:Int))=false)))++ [tC (by simp [aN]<;>omega:(c==(15:Int))=false),tF,.ret _ _ _ c4]
  by_cases h5:iv v=0
  ·have c6:= @dS v hv
   have c7:= @dT v
   have c8:= @bm v hv
   have c9:= @bn v
   exact (fK (d:= .aC [.agg [.int .i8 64,.bool false,.int .u8 c,.int .i8 (T8.wrap T8.i8 (↑(SF (Sy (8:Nat) (iB v)|||Sy (8:Nat) (h / (4:Int)%(2:Int)*(8:Int)))):Int)),.int .i8 (T8.wrap T8.i8 (↑(SF (Sy (8:Nat) (iC v)|||Sy (8:Nat) (h%(2:Int)*(8:Int)))):Int)),.int .i64 (jH v),.int .i64 (gl v (fR v)),.int .i64 (T8.i64.wrap (fG v (fR v))),.int .i64 (gl v (0:Nat)),.int .i64 (T8.i64.wrap (T8.wrap T8.i8 (fG v (0:Nat)))),.int .i8 (h%(2:Int)*(8:Int))],.bool true]) (E2++ [tC (nt (dx 0 true h5)),.ret _ _ _ c6,.ret _ _ _ c7,.ret _ _ _ c8,.ret _ _ _ c9]) (by kernel_rfl)).to (by clear E1 E2;(try simp only [sR,wk,ax,da,aZ] at*);(try rw [dp ‹¬iv v=0›]);(try simp only [cH hv,dn,gw hv (Tt rfl),gx hv (Tt rfl),ey hv,ez hv]);simp [*])
  have LZ:= @bm v hv
  have Nb:= @bn v
  have Nz:= @bm v hv
  have MB:= @bn v
  exact (fK (d:= .aC [.agg [.int .i8 64,.bool false,.int .u8 c,.int .i8 (T8.wrap T8.i8 (↑(SF (Sy (8:Nat) (iB v)|||Sy (8:Nat) (h / (4:Int)%(2:Int)*(8:Int)))):Int)),.int .i8 (T8.wrap T8.i8 (↑(SF (Sy (8:Nat) (iC v)|||Sy (8:Nat) (h%(2:Int)*(8:Int)))):Int)),.int .i64 (jH v),.int .i64 (gl v (0:Nat)),.int .i64 (T8.i64.wrap (fG v (0:Nat))),.int .i64 (gl v (0:Nat)),.int .i64 (T8.i64.wrap (T8.wrap T8.i8 (fG v (0:Nat)))),.int .i8 (h%(2:Int)*(8:Int))],.bool true]) (E2++ [tC (nt (aw h5)),.ret _ _ _ LZ,.ret _ _ _ Nb,.ret _ _ _ Nz,.ret _ _ _ MB]) (by kernel_rfl)).to (by clear E1 E2;(try simp only [sR,wk,ax,da,aZ] at*);(try rw [dp ‹¬iv v=0›]);(try simp only [cH hv,dn,gw hv (Tt rfl),gx hv (Tt rfl),ey hv,ez hv]);simp [*])
 have Oc:= @kD v hv
 let E3:EL:=E1++ [tC h3,tF,.get (.int .u8 c::bD v) 0 (.int .u8 c) rfl,.cQ (decide ((0:Int)≤(1:Int)∧(1:Int)≤(↑(SA (Tv (Sz (1:Int)) (Tv (Sz (1:Int)) (.int .u8 102:: .int .u8 h:: .int .u8 c::bD v)))):Int))) true (by simp [aN]<;>omega)]++Sx 3 (tC (eT (by simp [aN]<;>omega:(c==(15:Int))=false)))++ [tC (by simp [aN]<;>omega:(c==(15:Int))=false),tF,.ret _ _ _ Oc]
 by_cases h15:iv v=0
 ·have MS:= @dS v hv
  have Pw:= @dT v
  have Qd:= @bm v hv
  have M9:= @bn v
  exact (fK (d:= .aC [.agg [.int .i8 16,.bool false,.int .u8 c,.int .i8 (T8.wrap T8.i8 (↑(SF (Sy (8:Nat) (iB v)|||Sy (8:Nat) (h / (4:Int)%(2:Int)*(8:Int)))):Int)),.int .i8 (T8.wrap T8.i8 (↑(SF (Sy (8:Nat) (iC v)|||Sy (8:Nat) (h%(2:Int)*(8:Int)))):Int)),.int .i64 (jH v),.int .i64 (gl v (fR v)),.int .i64 (T8.i64.wrap (fG v (fR v))),.int .i64 (gl v (0:Nat)),.int .i64 (T8.i64.wrap (T8.wrap T8.i8 (fG v (0:Nat)))),.int .i8 (h%(2:Int)*(8:Int))],.bool true]) (E3++ [tC (nt (dx 0 true h15)),.ret _ _ _ MS,.ret _ _ _ Pw,.ret _ _ _ Qd,.ret _ _ _ M9]) (by kernel_rfl)).to (by clear E1 E3;(try simp only [sR,wk,ax,da,aZ] at*);(try rw [dp ‹¬iv v=0›]);(try simp only [cH hv,dn,gw hv (Tt rfl),gx hv (Tt rfl),ey hv,ez hv]);simp [*])
 have OW:= @bm v hv
 have Po:= @bn v
 have OJ:= @bm v hv
 have NT:= @bn v
 exact (fK (d:= .aC [.agg [.int .i8 16,.bool false,.int .u8 c,.int .i8 (T8.wrap T8.i8 (↑(SF (Sy (8:Nat) (iB v)|||Sy (8:Nat) (h / (4:Int)%(2:Int)*(8:Int)))):Int)),.int .i8 (T8.wrap T8.i8 (↑(SF (Sy (8:Nat) (iC v)|||Sy (8:Nat) (h%(2:Int)*(8:Int)))):Int)),.int .i64 (jH v),.int .i64 (gl v (0:Nat)),.int .i64 (T8.i64.wrap (fG v (0:Nat))),.int .i64 (gl v (0:Nat)),.int .i64 (T8.i64.wrap (T8.wrap T8.i8 (fG v (0:Nat)))),.int .i8 (h%(2:Int)*(8:Int))],.bool true]) (E3++ [tC (nt (aw h15)),.ret _ _ _ OW,.ret _ _ _ Po,.ret _ _ _ OJ,.ret _ _ _ NT]) (by kernel_rfl)).to (by clear E1 E3;(try simp only [sR,wk,ax,da,aZ] at*);(try rw [dp ‹¬iv v=0›]);(try simp only [cH hv,dn,gw hv (Tt rfl),gx hv (Tt rfl),ey hv,ez hv]);simp [*])
theorem Ee (b:List Int) (hb:fO b):∃x,aF Tryz.prog 142 [.aj .no 1 (bD b)] (.aC [da x,.bool (jT b).isSome])∧∀s,jT b=some s→x=s:=by
 have x6:∀(half:Bool) (w:Int) (p t:List Int),fO t→(half=true∧p= [102]∧w=16∨half=false∧p= []∧w=32∧hd t≠102)→jT (p++t)=fA w t→
   ∃x,aF Tryz.prog 142 [.aj .no 1 (bD (p++t))] (.aC [da x,.bool (jT (p++t)).isSome])∧∀s,jT (p++t)=some s→x=s:=by
  intro half w p t ht hc hp
  rw [hp]
  have out:∀(x:av) (k:Bool),aF Tryz.prog 142 [.aj .no 1 (bD (p++t))] (.aC [da x,.bool k])→(k=false∧fA w t=none)∨(k=true∧fA w t=some x)→
    ∃x,aF Tryz.prog 142 [.aj .no 1 (bD (p++t))] (.aC [da x,.bool (fA w t).isSome])∧∀s,fA w t=some s→x=s:=by
   rintro x k h (⟨rfl,e⟩|⟨rfl,e⟩)
   ·exact ⟨x,by rw [e];exact h,fun s hs=>by rw [e] at hs;cases hs⟩
   ·exact ⟨x,by rw [e];exact h,fun s hs=>by rw [e] at hs;exact Option.some.inj hs⟩
  match t,ht with
  | [],_=>
   rcases hc with ⟨-,rfl,rfl⟩|⟨-,rfl,rfl,-⟩
   ·exact out _ _ B6 (.inl ⟨rfl,rfl⟩)
   ·exact out _ _ BX (.inl ⟨rfl,rfl⟩)
  |h::u,ht=>
   obtain ⟨⟨g0,g1⟩,hu⟩:=ek.1 ht
   by_cases hq:jm h=true
   ·
    have e:fA w (h::u)=fU (if h / 8%2=1 then 64 else w) (h / 4%2*8) (h%2*8) u:=by simp only [fA,if_pos hq]
    match u,hu with
    | [],_=>
     rcases hc with ⟨-,rfl,rfl⟩|⟨-,rfl,rfl,hh⟩
     ·exact out _ _ (Ca h g0 g1 hq) (.inl ⟨rfl,by rw [e];rfl⟩)
     ·exact out _ _ (B2 h g0 g1 hq (by simpa [hd] using hh)) (.inl ⟨rfl,by rw [e];rfl⟩)
    |c::v,hu=>
     obtain ⟨⟨k0,k1⟩,hv⟩:=ek.1 hu
     by_cases hc15:c=15
     ·subst hc15
      match v,hv with
      | [],_=>
       rcases hc with ⟨-,rfl,rfl⟩|⟨-,rfl,rfl,hh⟩
       ·exact out _ _ (Cd h g0 g1 hq) (.inr ⟨rfl,by rw [e];rfl⟩)
       ·exact out _ _ (B5 h g0 g1 hq (by simpa [hd] using hh)) (.inr ⟨rfl,by rw [e];rfl⟩)
      |d::v,hv=>
       obtain ⟨-,hv⟩:=ek.1 hv
       rcases hc with ⟨-,rfl,rfl⟩|⟨-,rfl,rfl,hh⟩
       ·exact out _ _ (Cc h g0 g1 hq d v hv) (.inr ⟨rfl,by rw [e];rfl⟩)
       ·exact out _ _ (B4 h g0 g1 hq (by simpa [hd] using hh) d v hv) (.inr ⟨rfl,by rw [e];rfl⟩)
     ·rcases hc with ⟨-,rfl,rfl⟩|⟨-,rfl,rfl,hh⟩
      ·exact out _ _ (Cb h g0 g1 hq c hc15 v hv) (.inr ⟨rfl,by rw [e];exact cM hc15⟩)
      ·exact out _ _ (B3 h g0 g1 hq (by simpa [hd] using hh) c hc15 v hv) (.inr ⟨rfl,by rw [e];exact cM hc15⟩)
   ·
    have Sf:jm h=false:=by simpa using hq
    have e:fA w (h::u)=fU w 0 0 (h::u):=by simp only [fA,if_neg hq]
    by_cases hc15:h=15
    ·subst hc15
     match u,hu with
     | [],_=>
      rcases hc with ⟨-,rfl,rfl⟩|⟨-,rfl,rfl,hh⟩
      ·exact out _ _ B9 (.inr ⟨rfl,by rw [e];rfl⟩)
      ·exact out _ _ B1 (.inr ⟨rfl,by rw [e];rfl⟩)
     |d::v,hu=>
      obtain ⟨-,hv⟩:=ek.1 hu
      rcases hc with ⟨-,rfl,rfl⟩|⟨-,rfl,rfl,hh⟩
      ·exact out _ _ (B8 d v hv) (.inr ⟨rfl,by rw [e];rfl⟩)
      ·exact out _ _ (B0 d v hv) (.inr ⟨rfl,by rw [e];rfl⟩)
    ·rcases hc with ⟨-,rfl,rfl⟩|⟨-,rfl,rfl,hh⟩
     ·exact out _ _ (B7 h g0 g1 Sf hc15 u hu) (.inr ⟨rfl,by rw [e];exact cM hc15⟩)
     ·exact out _ _ (BZ h g0 g1 Sf (by simpa [hd] using hh) hc15 u hu) (.inr ⟨rfl,by rw [e];exact cM hc15⟩)
 by_cases h102:hd b=102
 ·match b,hb,h102 with
  |a::t,hb,h102=>
   have ha:a=102:=by simpa [hd] using h102
   subst ha
   exact x6 true 16 [102] t (ek.1 hb).2 (.inl ⟨rfl,rfl,rfl⟩) (by simp only [jT,List.cons_append,S0];rw [if_pos (by rfl)];rfl)
  | [],_,h=>simp [hd] at h
 ·exact x6 false 32 [] b hb (.inr ⟨rfl,rfl,rfl,h102⟩) (by simp only [jT,S0];rw [if_neg h102])
end Go.Proofs.YtbfpahigdpigpaaGreat
