import Derived.Test.YtbfpahigdpigpaaGreatS05
open BitVec renaming ofInt→Xf,toNat→Xm
open List renaming replicate→Xg,length→Xj,length_cons→Xx,length_nil→XE,nil_append→XJ,drop→Ya
open Go.Proofs.Tryz renaming prog→Xh
open Int renaming toNat→Xi,fdiv→Xq
open And renaming intro→Xw
open Or renaming inl→Yg
open Go renaming IntKind→YO
/- Contracts and plain laws that a statement's proof leans on (texts merged:MdM,Az,XP0,XP1,XP1A,XP2,XP2A). -/
set_option linter.unusedVariables false
set_option linter.unusedSimpArgs false
set_option maxRecDepth 100000
set_option maxHeartbeats 8000000
namespace Go.Ev
open Go
def u64 (n:Int):Int:=YO.u64.wrap n
def bo (v w:Int):Int:=if w=8 then v%256 else if w=16 then v%65536 else if w=32 then v%4294967296 else v
def fF (v w:Int):Int:=
  if w=8 then u64 (YO.i8.wrap v) else if w=16 then u64 (YO.i16.wrap v) else if w=32 then u64 (YO.i32.wrap v) else v
def iX (v w:Int):Bool:=decide (YO.i64.wrap (fF v w)<0)
def xu (a b:Int):Int:=u64 ((Xf 64 a^^^Xf 64 b).toNat:Int)
def xf (a b:Int):Int:=u64 ((Xf 64 a&&&Xf 64 b).toNat:Int)
def N3 (a b:Int):Int:=u64 ((Xf 64 a|||Xf 64 b).toNat:Int)
def fD (k c z s o:Bool):D:= .agg [ax k,ax c,ax z,ax s,ax o]
def Qz (b w:Int):Int:=xf b (u64 (YO.i8.wrap (w - 1)))
def sU (op a b WJ w:Int):Int:=
  if op=0 then u64 (a+b)
  else if op=1 then u64 (a - b)
  else if op=2 then u64 (a*b)
  else if op=3 then (if b=0 then 0 else u64 (a.tdiv b))
  else if op=4 then N3 a b
  else if op=5 then xf a b
  else if op=6 then u64 (a*2^(min WJ.toNat 64))
  else if op=7 then a.fdiv (2^(min WJ.toNat 64))
  else if op=8 then u64 (0 - a)
  else if op=9 then (if b=0 then a else a.tmod b)
  else if op=10 then xu a b
  else if op=11 then b
  else u64 ((YO.i64.wrap (fF a w)).fdiv (2^(min WJ.toNat 64)))
def iO (op w a b:Int):Int:=bo (sU op (bo a w) (bo b w) (Qz (bo b w) w) w) w
theorem PZ {x c:Int} {v:Bool} (h:(x==c)=v):decide (x≠c)= !v:=by
 rw [← h];by_cases e:x=c<;>simp [e]
def rg (l:List Int) (i:Int):Int:=l.getD i.toNat 0
def st (j i v r:Int):Int:=if i=j then v else r
theorem fe {i:Int} (h0:0≤i) (h1:i≤15):decide ((0:Int)≤i∧i<((16:Nat):Int))=true:=by
 rw [bP];omega
def Qi (i v r0 r1 r2 r3 r4 r5 r6 r7 r8 r9 RC Rf TL Sq RG Tv:Int) (tl:List D):List D:= .int .u64 (st 0 i v r0)::aB (st 1 i v r1)::aB (st 2 i v r2)::aB (st 3 i v r3)::aB (st 4 i v r4)::aB (st 5 i v r5)::aB (st 6 i v r6)::aB (st 7 i v r7)::aB (st 8 i v r8)::aB (st 9 i v r9)::aB (st 10 i v RC)::aB (st 11 i v Rf)::aB (st 12 i v TL)::aB (st 13 i v Sq)::aB (st 14 i v RG)::aB (st 15 i v Tv)::tl
abbrev uu:D:= .undef
abbrev C6 (l:List D) (i:Nat) (xs l':List D):Prop:=l.take i++(xs++l.drop (i+xs.length))=l'∧i+xs.length≤l.length
abbrev jb (l:List D) (i n:Nat) (l':List D):Prop:=(l.drop i).take n=l'∧i+n≤l.length
section
variable {r0 r1 r2 r3 r4 r5 r6 r7 r8 r9 RC Rf TL Sq RG Tv i v:Int} {tl:List D}
theorem mQ (h0:0≤i) (h1:i≤15):(D.int .u64 r0::D.int .u64 r1::D.int .u64 r2::D.int .u64 r3::D.int .u64 r4::D.int .u64 r5::D.int .u64 r6::D.int .u64 r7::D.int .u64 r8::D.int .u64 r9::D.int .u64 RC::D.int .u64 Rf::D.int .u64 TL::D.int .u64 Sq::D.int .u64 RG::D.int .u64 Tv::tl:List D)[0+i.toNat*1]? =
  some (aB (rg [r0,r1,r2,r3,r4,r5,r6,r7,r8,r9,RC,Rf,TL,Sq,RG,Tv] i)):=by
 obtain ⟨n,rfl⟩:=il h0 h1
 have:n.val=0∨n.val=1∨n.val=2∨n.val=3∨n.val=4∨n.val=5∨n.val=6∨n.val=7∨n.val=8∨n.val=9∨n.val=10∨n.val=11∨n.val=12∨n.val=13∨n.val=14∨n.val=15:=by omega
 rcases this with e|e|e|e|e|e|e|e|e|e|e|e|e|e|e|e<;>rw [e]<;>rfl
theorem vU (h0:0≤i) (h1:i≤15):C6 (D.int .u64 r0::D.int .u64 r1::D.int .u64 r2::D.int .u64 r3::D.int .u64 r4::D.int .u64 r5::D.int .u64 r6::D.int .u64 r7::D.int .u64 r8::D.int .u64 r9::D.int .u64 RC::D.int .u64 Rf::D.int .u64 TL::D.int .u64 Sq::D.int .u64 RG::D.int .u64 Tv::tl:List D) (0+i.toNat*1) [D.int .u64 v]
  (D.int .u64 (st 0 i v r0)::D.int .u64 (st 1 i v r1)::D.int .u64 (st 2 i v r2)::D.int .u64 (st 3 i v r3)::D.int .u64 (st 4 i v r4)::D.int .u64 (st 5 i v r5)::D.int .u64 (st 6 i v r6)::D.int .u64 (st 7 i v r7)::D.int .u64 (st 8 i v r8)::D.int .u64 (st 9 i v r9)::D.int .u64 (st 10 i v RC)::D.int .u64 (st 11 i v Rf)::D.int .u64 (st 12 i v TL)::D.int .u64 (st 13 i v Sq)::D.int .u64 (st 14 i v RG)::D.int .u64 (st 15 i v Tv)::tl):=by
 obtain ⟨n,rfl⟩:=il h0 h1
 have:n.val=0∨n.val=1∨n.val=2∨n.val=3∨n.val=4∨n.val=5∨n.val=6∨n.val=7∨n.val=8∨n.val=9∨n.val=10∨n.val=11∨n.val=12∨n.val=13∨n.val=14∨n.val=15:=by omega
 rcases this with e|e|e|e|e|e|e|e|e|e|e|e|e|e|e|e<;>rw [e]<;>refine ⟨rfl,by simp⟩
end
end Go.Ev
namespace Go.Proofs.YtbfpahigdpigpaaGreat
open Go Go.Ev
abbrev EL:=List (Ev Xh)
theorem cQ (b:Bool):b=true∨b=false:=Bool.eq_false_or_eq_true b
theorem cj:(∀ {p:Prop} [Decidable p],(decide p=true)=p)∧(∀ {p:Prop} [Decidable p],(decide p=false)↔ ¬p)∧(∀(b:Bool),(¬(b=true))=(b=false))∧(∀ {α:Type} [BEq α] [LawfulBEq α] {a b:α},(a==b)=true↔a=b)∧(∀ {α:Type} [BEq α] [LawfulBEq α] {a b:α},(a==b)=false↔a≠b)∧(∀(a b:Bool),(ax a=D.bool b)=(a=b)):=⟨@bP,@cq,@Bool.not_eq_true,@ck,@eI,@D.bool.injEq⟩
theorem cY:(∀n:Int,YO.i8.wrap n=(n+128)%256 - 128)∧(∀n:Int,YO.u8.wrap n=n%256)∧(∀n:Int,YO.i64.wrap n=(n+9223372036854775808)%18446744073709551616 - 9223372036854775808)∧(∀n:Int,YO.u64.wrap n=n%18446744073709551616)∧(∀ {p:Prop} [Decidable p],(decide p=true)=p)∧(∀ {p:Prop} [Decidable p],(decide p=false)↔ ¬p)∧(∀ {α:Type} [BEq α] [LawfulBEq α] {a b:α},(a==b)=true↔a=b)∧(∀ {α:Type} [BEq α] [LawfulBEq α] {a b:α},(a !=b)=true↔a≠b)∧(∀ {α:Type} [BEq α] [LawfulBEq α] {a b:α},(a==b)=false↔a≠b)∧(∀ {α:Type} [BEq α] [LawfulBEq α] {a b:α},(a !=b)=false↔a=b)∧(∀(b:Bool),((!b)=true)=(b=false))∧(∀(b:Bool),((!b)=false)=(b=true))∧(∀(a b:Bool),((a&&b)=true)=(a=true∧b=true))∧(∀(a b:Bool),((a||b)=true)=(a=true∨b=true)):=⟨@dJ,@bF,@aU,@dt,@bP,@cq,@ck,@gu,@eI,@bne_eq_false_iff_eq,@Bool.not_eq_true',@Bool.not_eq_false',@Bool.and_eq_true,@Bool.or_eq_true⟩
def OE (n:Nat) (f:Func):Prop:= ∀ {x:List D} {d:D} (o:EL),(h:wM Xh f x o=some (d,qQ o True):=by kernel_rfl)→aY Xh n x d
theorem o0:OE 0 Tryz.f0:=fun o h=>aY.ai mixed Tryz.func0 (by kernel_rfl) o h
theorem o1:OE 1 Tryz.f1:=fun o h=>aY.ai mixed Tryz.func1 (by kernel_rfl) o h
theorem o2:OE 2 Tryz.f2:=fun o h=>aY.ai mixed Tryz.func2 (by kernel_rfl) o h
theorem o3:OE 3 Tryz.f3:=fun o h=>aY.ai mixed Tryz.func3 (by kernel_rfl) o h
theorem o4:OE 4 Tryz.f4:=fun o h=>aY.ai mixed Tryz.func4 (by kernel_rfl) o h
theorem o5:OE 5 Tryz.f5:=fun o h=>aY.ai mixed Tryz.func5 (by kernel_rfl) o h
theorem o8:OE 8 Tryz.f8:=fun o h=>aY.ai mixed Tryz.func8 (by kernel_rfl) o h
theorem o9:OE 9 Tryz.f9:=fun o h=>aY.ai mixed Tryz.func9 (by kernel_rfl) o h
theorem LW:OE 11 Tryz.f11:=fun o h=>aY.ai mixed Tryz.func11 (by kernel_rfl) o h
theorem bl:OE 12 Tryz.f12:=fun o h=>aY.ai mixed Tryz.func12 (by kernel_rfl) o h
theorem bk:OE 13 Tryz.f13:=fun o h=>aY.ai mixed Tryz.func13 (by kernel_rfl) o h
theorem bj:OE 14 Tryz.f14:=fun o h=>aY.ai mixed Tryz.func14 (by kernel_rfl) o h
theorem bh:OE 15 Tryz.f15:=fun o h=>aY.ai mixed Tryz.func15 (by kernel_rfl) o h
theorem LV:OE 16 Tryz.f16:=fun o h=>aY.ai mixed Tryz.func16 (by kernel_rfl) o h
theorem yt:OE 17 Tryz.f17:=fun o h=>aY.ai mixed Tryz.func17 (by kernel_rfl) o h
theorem JT:OE 21 Tryz.f21:=fun o h=>aY.ai mixed Tryz.func21 (by kernel_rfl) o h
theorem qa:OE 26 Tryz.f26:=fun o h=>aY.ai mixed Tryz.func26 (by kernel_rfl) o h
theorem qn:OE 27 Tryz.f27:=fun o h=>aY.ai mixed Tryz.func27 (by kernel_rfl) o h
theorem nn:OE 30 Tryz.f30:=fun o h=>aY.ai mixed Tryz.func30 (by kernel_rfl) o h
theorem yr:OE 31 Tryz.f31:=fun o h=>aY.ai mixed Tryz.func31 (by kernel_rfl) o h
theorem qm:OE 35 Tryz.f35:=fun o h=>aY.ai mixed Tryz.func35 (by kernel_rfl) o h
theorem gg:OE 41 Tryz.f41:=fun o h=>aY.ai mixed Tryz.func41 (by kernel_rfl) o h
theorem gh:OE 42 Tryz.f42:=fun o h=>aY.ai mixed Tryz.func42 (by kernel_rfl) o h
theorem kD:OE 43 Tryz.f43:=fun o h=>aY.ai mixed Tryz.func43 (by kernel_rfl) o h
theorem nh:OE 58 Tryz.f58:=fun o h=>aY.ai mixed Tryz.func58 (by kernel_rfl) o h
theorem JS:OE 60 Tryz.f60:=fun o h=>aY.ai mixed Tryz.func60 (by kernel_rfl) o h
theorem PX:OE 61 Tryz.f61:=fun o h=>aY.ai mixed Tryz.func61 (by kernel_rfl) o h
theorem PW:OE 62 Tryz.f62:=fun o h=>aY.ai mixed Tryz.func62 (by kernel_rfl) o h
theorem PV:OE 63 Tryz.f63:=fun o h=>aY.ai mixed Tryz.func63 (by kernel_rfl) o h
theorem O0:OE 64 Tryz.f64:=fun o h=>aY.ai mixed Tryz.func64 (by kernel_rfl) o h
theorem OZ:OE 65 Tryz.f65:=fun o h=>aY.ai mixed Tryz.func65 (by kernel_rfl) o h
theorem PU:OE 66 Tryz.f66:=fun o h=>aY.ai mixed Tryz.func66 (by kernel_rfl) o h
theorem xq:OE 67 Tryz.f67:=fun o h=>aY.ai mixed Tryz.func67 (by kernel_rfl) o h
theorem Qo:OE 68 Tryz.f68:=fun o h=>aY.ai mixed Tryz.func68 (by kernel_rfl) o h
theorem Qn:OE 69 Tryz.f69:=fun o h=>aY.ai mixed Tryz.func69 (by kernel_rfl) o h
theorem PT:OE 70 Tryz.f70:=fun o h=>aY.ai mixed Tryz.func70 (by kernel_rfl) o h
theorem ey:OE 72 Tryz.f72:=fun o h=>aY.ai mixed Tryz.func72 (by kernel_rfl) o h
theorem mK:OE 73 Tryz.f73:=fun o h=>aY.ai mixed Tryz.func73 (by kernel_rfl) o h
theorem NA:OE 75 Tryz.f75:=fun o h=>aY.ai mixed Tryz.func75 (by kernel_rfl) o h
theorem Qm:OE 76 Tryz.f76:=fun o h=>aY.ai mixed Tryz.func76 (by kernel_rfl) o h
theorem Ql:OE 77 Tryz.f77:=fun o h=>aY.ai mixed Tryz.func77 (by kernel_rfl) o h
theorem lu:OE 83 Tryz.f83:=fun o h=>aY.ai mixed Tryz.func83 (by kernel_rfl) o h
theorem PS:OE 89 Tryz.f89:=fun o h=>aY.ai mixed Tryz.func89 (by kernel_rfl) o h
theorem jd:OE 98 Tryz.f98:=fun o h=>aY.ai mixed Tryz.func98 (by kernel_rfl) o h
theorem PR:OE 99 Tryz.f99:=fun o h=>aY.ai mixed Tryz.func99 (by kernel_rfl) o h
theorem Oc:OE 100 Tryz.f100:=fun o h=>aY.ai mixed Tryz.func100 (by kernel_rfl) o h
theorem KU:OE 101 Tryz.f101:=fun o h=>aY.ai mixed Tryz.func101 (by kernel_rfl) o h
theorem Iw:OE 102 Tryz.f102:=fun o h=>aY.ai mixed Tryz.func102 (by kernel_rfl) o h
theorem Oa:OE 104 Tryz.f104:=fun o h=>aY.ai mixed Tryz.func104 (by kernel_rfl) o h
theorem N9:OE 105 Tryz.f105:=fun o h=>aY.ai mixed Tryz.func105 (by kernel_rfl) o h
theorem Pp:OE 106 Tryz.f106:=fun o h=>aY.ai mixed Tryz.func106 (by kernel_rfl) o h
theorem N8:OE 108 Tryz.f108:=fun o h=>aY.ai mixed Tryz.func108 (by kernel_rfl) o h
theorem Po:OE 116 Tryz.f116:=fun o h=>aY.ai mixed Tryz.func116 (by kernel_rfl) o h
theorem N7:OE 136 Tryz.f136:=fun o h=>aY.ai mixed Tryz.func136 (by kernel_rfl) o h
theorem N6:OE 137 Tryz.f137:=fun o h=>aY.ai mixed Tryz.func137 (by kernel_rfl) o h
theorem N5:OE 138 Tryz.f138:=fun o h=>aY.ai mixed Tryz.func138 (by kernel_rfl) o h
theorem gW:OE 142 Tryz.f142:=fun o h=>aY.ai mixed Tryz.func142 (by kernel_rfl) o h
theorem ib:OE 157 Tryz.f157:=fun o h=>aY.ai mixed Tryz.func157 (by kernel_rfl) o h
theorem KT:OE 158 Tryz.f158:=fun o h=>aY.ai mixed Tryz.func158 (by kernel_rfl) o h
theorem Ey:OE 159 Tryz.f159:=fun o h=>aY.ai mixed Tryz.func159 (by kernel_rfl) o h
theorem wg:OE 160 Tryz.f160:=fun o h=>aY.ai mixed Tryz.func160 (by kernel_rfl) o h
theorem Iv:OE 161 Tryz.f161:=fun o h=>aY.ai mixed Tryz.func161 (by kernel_rfl) o h
theorem N4:OE 167 Tryz.f167:=fun o h=>aY.ai mixed Tryz.func167 (by kernel_rfl) o h
theorem Pn:OE 168 Tryz.f168:=fun o h=>aY.ai mixed Tryz.func168 (by kernel_rfl) o h
theorem Pm:OE 169 Tryz.f169:=fun o h=>aY.ai mixed Tryz.func169 (by kernel_rfl) o h
theorem qs (a b c d:Int) (a0:0≤a) (a1:a≤255) (b0:0≤b) (b1:b≤255) (c0:0≤c) (c1:c≤255) (d0:0≤d) (d1:d≤255):aY Xh 169 ([aZ 1 [av a,av b,av c,av d]]) (aB (a+256*b+65536*c+16777216*d)):=(Pm (d:= .int .u64 (YO.wrap YO.u64 (↑(Xm (Xf (64:Nat) (YO.wrap YO.u64 (YO.wrap YO.u64 (↑(Xm (Xf (64:Nat) (YO.wrap YO.u64 (YO.wrap YO.u64 (↑(Xm (Xf (64:Nat) (YO.wrap YO.u64 (YO.wrap YO.u64 (↑(Xm (Xf (64:Nat) 0|||Xf (64:Nat) (YO.wrap YO.u64 d))):Int)*256))|||Xf (64:Nat) (YO.wrap YO.u64 c))):Int)*256))|||Xf (64:Nat) (YO.wrap YO.u64 b))):Int)*256))|||Xf (64:Nat) (YO.wrap YO.u64 a))):Int))) ([.go 64]++bK 9 255)).to (by simp only [wk,D.int.injEq,ev];rw [MI (y:=d) (by omega) (by omega),Cy (x:=d) (y:=c) (by omega) (by omega) (by omega) (by omega),Cy (x:=d*256+c) (y:=b) (by omega) (by omega) (by omega) (by omega),Cy (x:=(d*256+c)*256+b) (y:=a) (by omega) (by omega) (by omega) (by omega)];omega)
theorem qM (a b c d:Int) (a0:0≤a) (a1:a≤255) (b0:0≤b) (b1:b≤255) (c0:0≤c) (c1:c≤255) (d0:0≤d) (d1:d≤255):aY Xh 168 ([aZ 1 [av a,av b,av c,av d]]) (ao (fU a b c d)):=(Pn (d:= .int .i64 (YO.i64.wrap (↑(Xm (Xf (64:Nat) (YO.i64.wrap (YO.i64.wrap (↑(Xm (Xf (64:Nat) (YO.i64.wrap (YO.i64.wrap (↑(Xm (Xf (64:Nat) (YO.i64.wrap (YO.i64.wrap (YO.wrap YO.i8 d)*256))|||Xf (64:Nat) (YO.wrap YO.i64 c))):Int)*256))|||Xf (64:Nat) (YO.wrap YO.i64 b))):Int)*256))|||Xf (64:Nat) (YO.wrap YO.i64 a))):Int))) [tT,tF,tT,.go 64,tT,tT,tT,tT,tT,tT,tF]).to (by simp only [wk,D.int.injEq,ev,dJ];rw [show YO.i64.wrap ((d+128)%256 - 128)=(d+128)%256 - 128 by rw [aU];omega,Ah (x:=(d+128)%256 - 128) (y:=c) (by omega) (by omega) (by omega) (by omega),Ah (x:=((d+128)%256 - 128)*256+c) (y:=b) (by omega) (by omega) (by omega) (by omega),Ah (x:=(((d+128)%256 - 128)*256+c)*256+b) (y:=a) (by omega) (by omega) (by omega) (by omega)];simp only [fU];omega)
theorem Cx (b:List Int) (i:Int) (hi:0≤i):aY Xh 158 ([aZ 1 (bD b),ao i]) (av (gP b i.toNat)):=by
 rcases cQ (decide ((↑(Xj (bD b)):Int)≤i)) with h0|h0
 ·exact (KT (d:= .int .u8 0) [tC h0]).to (by simp only [wk,D.int.injEq,ev];first|done|(symm;apply yk;simp only [bP] at*;omega))
 exact (KT (d:= .int .u8 (gP b (Xi i))) [tC h0,tC (v:=true) (bO 0 (bg (Int.not_lt.2 hi))),.get _ _ _ (@Ng b i hi (by (simp only [cY] at*;omega)))]).to (by simp only [wk,D.int.injEq,ev];first|done|(symm;apply yk;simp only [bP] at*;omega))
theorem GS (b:List Int) (i:Int) (hi:0≤i) (h6:i≤6) (hs:((bD b).length:Int)<i+4):aY Xh 161 ([aZ 1 (bD b),ao i]) (ao 0):=(Iv (d:= .int .i64 0) [tC (by (simp only [cY] at*;omega):(decide ((↑(Xj (bD b)):Int)<YO.i64.wrap (i+4)))=true)]).to (by simp [wk])
theorem l5 (v:Int) (v0:0≤v) (v1:v≤255) (hq:kr v=true):aY Xh 159 ([av v]) (.aQ [ax (decide (v / 8%2=1)),aj (v / 4%2*8),aj (v%2*8),ax true]):=by
 by_cases h0:Xq v 16=4
 ·let E1:EL:=(Xg 3 (tC (eF (nt (cP 4 true h0))))++ [tC (nt (cP 4 true h0))])
  by_cases h1:YO.wrap YO.u8 (↑(Xm (Xf (8:Nat) v&&&Xf (8:Nat) 2)):Int)=0
  ·exact (Ey (d:= .aQ [ax (YO.wrap YO.u8 (↑(Xm (Xf (8:Nat) v&&&Xf (8:Nat) 8)):Int) !=0),aj (YO.wrap YO.i8 (YO.wrap YO.u8 (↑(Xm (Xf (8:Nat) (YO.wrap YO.u8 (v*2))&&&Xf (8:Nat) 8)):Int))),aj (YO.wrap YO.i8 (YO.wrap YO.u8 (↑(Xm (Xf (8:Nat) (YO.wrap YO.u8 (v*8))&&&Xf (8:Nat) 8)):Int))),ax true]) (E1++ [tC (nt (cP 0 true h1))])).to (by clear E1;simp only [aI,D.int.injEq,D.bool.injEq,ev,fS];obtain ⟨n,rfl⟩:=mg v0 v1;clear v0 v1;revert n;decide+kernel)
  exact (Ey (d:= .aQ [ax false,aj 0,aj 0,ax false]) (E1++ [tC (nt (aH h1))])).to (by clear E1;simp only [aI,D.int.injEq,D.bool.injEq,ev,fS];obtain ⟨n,rfl⟩:=mg v0 v1;clear v0 v1;revert n;decide+kernel)
 exact (Ey (d:= .aQ [ax false,aj 0,aj 0,ax false]) (Xg 3 (tC (eF (nt (aH h0))))++ [tC (nt (aH h0)),tT])).to (by simp only [aI,D.int.injEq,D.bool.injEq,ev,fS];obtain ⟨n,rfl⟩:=mg v0 v1;clear v0 v1;revert n;decide+kernel)
theorem l6 (v:Int) (v0:0≤v) (v1:v≤255) (hq:kr v=false):aY Xh 159 ([av v]) (.aQ [ax false,aj 0,aj 0,ax false]):=by
 by_cases h0:Xq v 16=4
 ·let E1:EL:=(Xg 3 (tC (eF (nt (cP 4 true h0))))++ [tC (nt (cP 4 true h0))])
  by_cases h1:YO.wrap YO.u8 (↑(Xm (Xf (8:Nat) v&&&Xf (8:Nat) 2)):Int)=0
  ·exact (Ey (d:= .aQ [ax (YO.wrap YO.u8 (↑(Xm (Xf (8:Nat) v&&&Xf (8:Nat) 8)):Int) !=0),aj (YO.wrap YO.i8 (YO.wrap YO.u8 (↑(Xm (Xf (8:Nat) (YO.wrap YO.u8 (v*2))&&&Xf (8:Nat) 8)):Int))),aj (YO.wrap YO.i8 (YO.wrap YO.u8 (↑(Xm (Xf (8:Nat) (YO.wrap YO.u8 (v*8))&&&Xf (8:Nat) 8)):Int))),ax true]) (E1++ [tC (nt (cP 0 true h1))])).to (by clear E1;first|(simp [aI];done)|(simp only [aI,D.int.injEq,D.bool.injEq,ev,fS];obtain ⟨n,rfl⟩:=mg v0 v1;clear v0 v1;revert n;decide+kernel))
  exact (Ey (d:= .aQ [ax false,aj 0,aj 0,ax false]) (E1++ [tC (nt (aH h1))])).to (by clear E1;first|(simp [aI];done)|(simp only [aI,D.int.injEq,D.bool.injEq,ev,fS];obtain ⟨n,rfl⟩:=mg v0 v1;clear v0 v1;revert n;decide+kernel))
 exact (Ey (d:= .aQ [ax false,aj 0,aj 0,ax false]) (Xg 3 (tC (eF (nt (aH h0))))++ [tC (nt (aH h0)),tT])).to (by first|(simp [aI];done)|(simp only [aI,D.int.injEq,D.bool.injEq,ev,fS];obtain ⟨n,rfl⟩:=mg v0 v1;clear v0 v1;revert n;decide+kernel))
theorem GX (a b c d:Int) (t:List Int) (a0:0≤a) (a1:a≤255) (b0:0≤b) (b1:b≤255) (c0:0≤c) (c1:c≤255) (d0:0≤d) (d1:d≤255):aY Xh 161 ([aZ 1 (av a::av b::av c::av d::bD t),ao 0]) (ao (fU a b c d)):=by
 have c0:= @qs a b c d a0 a1 b0 b1 c0 c1 d0 d1
 exact (Iv (d:= .int .i64 (YO.i64.wrap (YO.wrap YO.i32 (a+(256:Int)*b+(65536:Int)*c+(16777216:Int)*d)))) [tF,.dP (decide ((0:Int)≤(0:Int)∧(0:Int)≤YO.i64.wrap ((0:Int)+(4:Int))∧YO.i64.wrap ((0:Int)+(4:Int))≤(↑(Xj (av a::av b::av c::av d::bD t)):Int))) true (by ((try simp only [Xx,aK,cY] at*);omega)),aw c0]).to (by simp only [wk,D.int.injEq,ev,nM,aU,fU];omega)
theorem GW (y0 a b c d:Int) (t:List Int) (a0:0≤a) (a1:a≤255) (b0:0≤b) (b1:b≤255) (c0:0≤c) (c1:c≤255) (d0:0≤d) (d1:d≤255):aY Xh 161 ([aZ 1 (av y0::av a::av b::av c::av d::bD t),ao 1]) (ao (fU a b c d)):=by
 have c0:= @qs a b c d a0 a1 b0 b1 c0 c1 d0 d1
 exact (Iv (d:= .int .i64 (YO.i64.wrap (YO.wrap YO.i32 (a+(256:Int)*b+(65536:Int)*c+(16777216:Int)*d)))) [tF,.dP (decide ((0:Int)≤(1:Int)∧(1:Int)≤YO.i64.wrap ((1:Int)+(4:Int))∧YO.i64.wrap ((1:Int)+(4:Int))≤(↑(Xj (av y0::av a::av b::av c::av d::bD t)):Int))) true (by ((try simp only [Xx,aK,cY] at*);omega)),aw c0]).to (by simp only [wk,D.int.injEq,ev,nM,aU,fU];omega)
theorem GV (y0 y1 y2 y3 y4 a b c d:Int) (t:List Int) (a0:0≤a) (a1:a≤255) (b0:0≤b) (b1:b≤255) (c0:0≤c) (c1:c≤255) (d0:0≤d) (d1:d≤255):aY Xh 161 ([aZ 1 (av y0::av y1::av y2::av y3::av y4::av a::av b::av c::av d::bD t),ao 5]) (ao (fU a b c d)):=by
 have c0:= @qs a b c d a0 a1 b0 b1 c0 c1 d0 d1
 exact (Iv (d:= .int .i64 (YO.i64.wrap (YO.wrap YO.i32 (a+(256:Int)*b+(65536:Int)*c+(16777216:Int)*d)))) [tF,.dP (decide ((0:Int)≤(5:Int)∧(5:Int)≤YO.i64.wrap ((5:Int)+(4:Int))∧YO.i64.wrap ((5:Int)+(4:Int))≤(↑(Xj (av y0::av y1::av y2::av y3::av y4::av a::av b::av c::av d::bD t)):Int))) true (by ((try simp only [Xx,aK,cY] at*);omega)),aw c0]).to (by simp only [wk,D.int.injEq,ev,nM,aU,fU];omega)
theorem GU (y0 y1 y2 y3 y4 y5 a b c d:Int) (t:List Int) (a0:0≤a) (a1:a≤255) (b0:0≤b) (b1:b≤255) (c0:0≤c) (c1:c≤255) (d0:0≤d) (d1:d≤255):aY Xh 161 ([aZ 1 (av y0::av y1::av y2::av y3::av y4::av y5::av a::av b::av c::av d::bD t),ao 6]) (ao (fU a b c d)):=by
 have c0:= @qs a b c d a0 a1 b0 b1 c0 c1 d0 d1
 exact (Iv (d:= .int .i64 (YO.i64.wrap (YO.wrap YO.i32 (a+(256:Int)*b+(65536:Int)*c+(16777216:Int)*d)))) [tF,.dP (decide ((0:Int)≤(6:Int)∧(6:Int)≤YO.i64.wrap ((6:Int)+(4:Int))∧YO.i64.wrap ((6:Int)+(4:Int))≤(↑(Xj (av y0::av y1::av y2::av y3::av y4::av y5::av a::av b::av c::av d::bD t)):Int))) true (by ((try simp only [Xx,aK,cY] at*);omega)),aw c0]).to (by simp only [wk,D.int.injEq,ev,nM,aU,fU];omega)
theorem jn:aY Xh 160 ([aZ 1 []]) (.aQ [aj 0,aj 0,ao 0,ax false,ao 0,ao 30]):=(wg (d:= .aQ [aj 0,aj 0,ao 0,ax false,ao 0,ao 30]) [tT]).to (by simp [aI])
theorem ED (v:Int) (v0:0≤v) (v1:v≤255) (t:List Int) (h3:v / 64=3):aY Xh 160 ([aZ 1 (av v::bD t)]) (.aQ [aj (v / 8%8),aj (v%8),ao (0),ax false,ao 1,ao 0]):=(wg (d:= .aQ [aj (YO.wrap YO.i8 (YO.wrap YO.u8 (↑(Xm (Xf (8:Nat) (Xq v 8)&&&Xf (8:Nat) 7)):Int))),aj (YO.wrap YO.i8 (YO.wrap YO.u8 (↑(Xm (Xf (8:Nat) v&&&Xf (8:Nat) 7)):Int))),ao 0,ax false,ao 1,ao 0]) ([tF]++Xg 3 (.get (av v::bD t) 0 (av v) rfl)++ [tC (cP 3 true (eq_of_beq (@L8 v h3)))])).to (by simp only [aI,D.int.injEq,D.bool.injEq,ev,fS,yz,MV v0 v1,and_self];first|done|omega)
theorem Ao (v:Int) (v0:0≤v) (v1:v≤255) (a b c d:Int) (t:List Int) (a0:0≤a) (a1:a≤255) (b0:0≤b) (b1:b≤255) (c0:0≤c) (c1:c≤255) (d0:0≤d) (d1:d≤255) (h2:v / 64=2) (hr:¬v%8=4):aY Xh 160 ([aZ 1 (av v::av a::av b::av c::av d::bD t)]) (.aQ [aj (v / 8%8),aj (v%8),ao (fU a b c d),ax true,ao 5,ao 0]):=by
 have c0:= @qM a b c d a0 a1 b0 b1 c0 c1 d0 d1
 generalize g2:fU a b c d=r1 at c0
 exact (wg (d:= .aQ [aj (YO.wrap YO.i8 (YO.wrap YO.u8 (↑(Xm (Xf (8:Nat) (Xq v (8:Int))&&&Xf (8:Nat) (7:Int))):Int))),aj (YO.wrap YO.i8 (YO.wrap YO.u8 (↑(Xm (Xf (8:Nat) v&&&Xf (8:Nat) (7:Int))):Int))),ao r1,ax true,ao 5,ao 0]) ([tF]++Xg 3 (.get (av v::av a::av b::av c::av d::bD t) 0 (av v) rfl)++ [tC (@qC (v) h2),tC (cP 2 true (eq_of_beq (@qD (v) h2))),tC (@IL (v) hr)]++Xg 3 (tC (eT (bO 5 (by ((try simp only [Xx,XE,aK,cY] at*);omega):(decide ((↑(Xj (av v::av a::av b::av c::av d::bD t)):Int)<(5:Int)))=false))))++ [tF,tF,tF,tF,tC (eT (bO 5 (by ((try simp only [Xx,XE,aK,cY] at*);omega):(decide ((↑(Xj (av v::av a::av b::av c::av d::bD t)):Int)<(5:Int)))=false))),tT,tC (bO 5 (by ((try simp only [Xx,XE,aK,cY] at*);omega):(decide ((↑(Xj (av v::av a::av b::av c::av d::bD t)):Int)<(5:Int)))=false)),tT,.dP (decide ((0:Int)≤(1:Int)∧(1:Int)≤YO.i64.wrap ((1:Int)+(4:Int))∧YO.i64.wrap ((1:Int)+(4:Int))≤(↑(Xj (av v::av a::av b::av c::av d::bD t)):Int))) true (by ((try simp only [Xx,XE,aK,cY] at*);omega)),aw c0])).to (by simp only [aI,D.int.injEq,D.bool.injEq,ev,fS,yz,MV v0 v1,and_self];first|done|omega)
theorem An (v:Int) (v0:0≤v) (v1:v≤255) (a b c d:Int) (t:List Int) (a0:0≤a) (a1:a≤255) (b0:0≤b) (b1:b≤255) (c0:0≤c) (c1:c≤255) (d0:0≤d) (d1:d≤255) (h2:v / 64=2) (hr:v%8=4):aY Xh 160 ([aZ 1 (av v::av 36::av a::av b::av c::av d::bD t)]) (.aQ [aj (v / 8%8),aj (v%8),ao (fU a b c d),ax true,ao 6,ao 0]):=by
 have c0:= @qM a b c d a0 a1 b0 b1 c0 c1 d0 d1
 generalize g2:fU a b c d=r1 at c0
 exact (wg (d:= .aQ [aj (YO.wrap YO.i8 (YO.wrap YO.u8 (↑(Xm (Xf (8:Nat) (Xq v (8:Int))&&&Xf (8:Nat) (7:Int))):Int))),aj (YO.wrap YO.i8 (YO.wrap YO.u8 (↑(Xm (Xf (8:Nat) v&&&Xf (8:Nat) (7:Int))):Int))),ao r1,ax true,ao 6,ao 0]) ([tF]++Xg 3 (.get (av v::av 36::av a::av b::av c::av d::bD t) 0 (av v) rfl)++ [tC (@qC (v) h2),tC (cP 2 true (eq_of_beq (@qD (v) h2))),tC (cP 4 true (eq_of_beq (@Ax (v) hr)))]++Xg 3 (tC (eT (bO 6 (by ((try simp only [Xx,XE,aK,cY] at*);omega):(decide ((↑(Xj (av v::av 36::av a::av b::av c::av d::bD t)):Int)<(6:Int)))=false))))++ [tT,tT,tT,tT,tC (eT (bO 6 (by ((try simp only [Xx,XE,aK,cY] at*);omega):(decide ((↑(Xj (av v::av 36::av a::av b::av c::av d::bD t)):Int)<(6:Int)))=false))),tF,tC (bO 6 (by ((try simp only [Xx,XE,aK,cY] at*);omega):(decide ((↑(Xj (av v::av 36::av a::av b::av c::av d::bD t)):Int)<(6:Int)))=false)),tT,.dP (decide ((0:Int)≤(2:Int)∧(2:Int)≤YO.i64.wrap ((2:Int)+(4:Int))∧YO.i64.wrap ((2:Int)+(4:Int))≤(↑(Xj (av v::av 36::av a::av b::av c::av d::bD t)):Int))) true (by ((try simp only [Xx,XE,aK,cY] at*);omega)),aw c0])).to (by simp only [aI,D.int.injEq,D.bool.injEq,ev,fS,yz,MV v0 v1,and_self];first|done|omega)
theorem EE (v:Int) (v0:0≤v) (v1:v≤255) (t:List Int) (hl:v / 64<2):aY Xh 160 ([aZ 1 (av v::bD t)]) (.aQ [aj 0,aj 0,ao 0,ax false,ao 0,ao 30]):=(wg (d:= .aQ [aj 0,aj 0,ao 0,ax false,ao 0,ao 30]) ([tF]++Xg 3 (.get (av v::bD t) 0 (av v) rfl)++ [tC (@J3 v hl),tC (@L9 v hl)])).to (by simp [aI])
theorem EC (v:Int) (v0:0≤v) (v1:v≤255) (t:List Int) (h2:v / 64=2) (hr:¬v%8=4) (hs:t.length<4):aY Xh 160 ([aZ 1 (av v::bD t)]) (.aQ [aj 0,aj 0,ao 0,ax false,ao 0,ao 30]):=(wg (d:= .aQ [aj 0,aj 0,ao 0,ax false,ao 0,ao 30]) ([tF]++Xg 3 (.get (av v::bD t) 0 (av v) rfl)++ [tC (@qC v h2),tC (cP 2 true (eq_of_beq (@qD v h2))),tC (@IL v hr)]++Xg 4 (tC (eT (bO 5 (by ((try simp only [Xx,XE,aK,cY] at*);omega):(decide ((↑(Xj (av v::bD t)):Int)<5))=true))))++ [tC (bO 5 (by ((try simp only [Xx,XE,aK,cY] at*);omega):(decide ((↑(Xj (av v::bD t)):Int)<5))=true)),tF])).to (by simp [aI])
theorem tB (v:Int) (v0:0≤v) (v1:v≤255) (t:List Int) (h2:v / 64=2) (hr:v%8=4) (hs:t.length<5):aY Xh 160 ([aZ 1 (av v::bD t)]) (.aQ [aj 0,aj 0,ao 0,ax false,ao 0,ao 30]):=(wg (d:= .aQ [aj 0,aj 0,ao 0,ax false,ao 0,ao 30]) ([tF]++Xg 3 (.get (av v::bD t) 0 (av v) rfl)++ [tC (@qC v h2),tC (cP 2 true (eq_of_beq (@qD v h2))),tC (cP 4 true (eq_of_beq (@Ax v hr)))]++Xg 4 (tC (eT (bO 6 (by ((try simp only [Xx,XE,aK,cY] at*);omega):(decide ((↑(Xj (av v::bD t)):Int)<6))=true))))++ [tC (bO 6 (by ((try simp only [Xx,XE,aK,cY] at*);omega):(decide ((↑(Xj (av v::bD t)):Int)<6))=true)),tF])).to (by simp [aI])
theorem EB (v:Int) (v0:0≤v) (v1:v≤255) (s:Int) (t:List Int) (h2:v / 64=2) (hr:v%8=4) (hs:¬s=36):aY Xh 160 ([aZ 1 (av v::av s::bD t)]) (.aQ [aj 0,aj 0,ao 0,ax false,ao 0,ao 30]):=by
 let E1:EL:=([tF]++Xg 3 (.get (av v::av s::bD t) 0 (av v) rfl)++ [tC (@qC v h2),tC (cP 2 true (eq_of_beq (@qD v h2))),tC (cP 4 true (eq_of_beq (@Ax v hr)))])
 rcases cQ (decide ((↑(Xj (av v::av s::bD t)):Int)<6)) with h0|h0
 ·exact (wg (d:= .aQ [aj 0,aj 0,ao 0,ax false,ao 0,ao 30]) (E1++Xg 4 (tC (eT (bO 6 h0)))++ [tC (bO 6 h0),tF])).to (by clear E1;simp [aI])
 exact (wg (d:= .aQ [aj 0,aj 0,ao 0,ax false,ao 0,ao 30]) (E1++Xg 3 (tC (eT (bO 6 h0)))++ [tT,tT,tT,tT,tC (eT (bO 6 h0)),tF,tC (bO 6 h0),tC (by ((try simp only [Xx,XE,aK,cY] at*);omega):(s==36)=false)])).to (by clear E1;simp [aI])
theorem ov (t:List Int):t.length<4∨∃a b c d r,t=a::b::c::d::r:=by
 match t with
 | []=>exact .inl (by simp)
 | [_]=>exact .inl (by simp)
 | [_,_]=>exact .inl (by simp)
 | [_,_,_]=>exact .inl (by simp)
 |a::b::c::d::r=>exact .inr ⟨a,b,c,d,r,rfl⟩
theorem lQ (v:List Int) (hv:du v):aY Xh 160 [aZ 1 (bD v)] (.aQ [aj (jE v),aj (jF v),ao (kR v),ax (decide (2≤hJ v)),ao (hJ v:Int),ao (jy v)]):=by
 match v,hv with
 | [],_=>exact jn.cast rfl rfl
 |v::t,hv=>
  obtain ⟨⟨v0,v1⟩,ht⟩:=fH.1 hv
  have e:bD (v::t)= .int .u8 v::bD t:=rfl
  by_cases h3:v / 64=3
  ·have hn:hJ (v::t)=1:=by simp [hJ,h3]
   refine (ED v v0 v1 t h3).cast rfl ?_
   simp [jE,jF,kR,jy,hn,hd]
  ·by_cases h2:v / 64=2
   ·by_cases hr:v%8=4
    ·match t,ht with
     | [],ht=>
      have hn:hJ [v]=0:=by simp [hJ,h2,hr]
      refine (tB v v0 v1 [] h2 hr (by simp)).cast rfl ?_
      simp [jE,jF,kR,jy,hn]
     |s::t,ht=>
      by_cases hs:s=36
      ·subst hs
       rcases ov t with hl|⟨a,b,c,d,r,rfl⟩
       ·have hn:hJ (v::36::t)=0:=by simp [hJ,h2,hr,hd];omega
        refine (tB v v0 v1 (36::t) h2 hr (by simp;omega)).cast rfl ?_
        simp [jE,jF,kR,jy,hn]
       ·have hn:hJ (v::36::a::b::c::d::r)=6:=by simp [hJ,h2,hr,hd]
        simp only [fH] at ht
        obtain ⟨-,⟨a0,a1⟩,⟨b0,b1⟩,⟨c0,c1⟩,⟨d0,d1⟩,-⟩:=ht
        refine (An v v0 v1 a b c d r a0 a1 b0 b1 c0 c1 d0 d1 h2 hr).cast rfl ?_
        simp [jE,jF,kR,jy,hn,hd,zo]
      ·have hn:hJ (v::s::t)=0:=by simp [hJ,h2,hr,hd,hs]
       refine (EB v v0 v1 s t h2 hr hs).cast rfl ?_
       simp [jE,jF,kR,jy,hn]
    ·rcases ov t with hl|⟨a,b,c,d,r,rfl⟩
     ·have hn:hJ (v::t)=0:=by simp [hJ,h2,hr];omega
      refine (EC v v0 v1 t h2 hr hl).cast rfl ?_
      simp [jE,jF,kR,jy,hn]
     ·have hn:hJ (v::a::b::c::d::r)=5:=by simp [hJ,h2,hr]
      simp only [fH] at ht
      obtain ⟨⟨a0,a1⟩,⟨b0,b1⟩,⟨c0,c1⟩,⟨d0,d1⟩,-⟩:=ht
      refine (Ao v v0 v1 a b c d r a0 a1 b0 b1 c0 c1 d0 d1 h2 hr).cast rfl ?_
      simp [jE,jF,kR,jy,hn,hd,zo]
   ·have hn:hJ (v::t)=0:=by simp [hJ,h2,h3]
    refine (EE v v0 v1 t (by omega)).cast rfl ?_
    simp [jE,jF,kR,jy,hn]
theorem Cc (b:List Int) (hb:du b) (i:Nat) (hi:i=0∨i=1∨i=5∨i=6):aY Xh 161 [aZ 1 (bD b),ao (i:Int)] (ao (ig b i)):=by
 by_cases hs:b.length<i+4
 ·refine (GS b i (by omega) (by omega) (by rw [aK];omega)).cast rfl ?_
  simp [ig,hs]
 ·have hq:∀ {x:D},ig b i=zo (b.drop i):=fun {_} =>by simp [ig,hs]
  rw [hq (x:= .undef)]
  rcases hi with rfl|rfl|rfl|rfl
  ·match b,hb,hs with
   |a::b::c::d::t,hb,_=>
    simp only [fH] at hb
    obtain ⟨⟨a0,a1⟩,⟨b0,b1⟩,⟨c0,c1⟩,⟨d0,d1⟩,-⟩:=hb
    exact (GX a b c d t a0 a1 b0 b1 c0 c1 d0 d1).cast rfl rfl
   | [],_,hs| [_],_,hs| [_,_],_,hs| [_,_,_],_,hs=>simp at hs
  ·match b,hb,hs with
   |y::a::b::c::d::t,hb,_=>
    simp only [fH] at hb
    obtain ⟨-,⟨a0,a1⟩,⟨b0,b1⟩,⟨c0,c1⟩,⟨d0,d1⟩,-⟩:=hb
    exact (GW y a b c d t a0 a1 b0 b1 c0 c1 d0 d1).cast rfl rfl
   | [],_,hs| [_],_,hs| [_,_],_,hs| [_,_,_],_,hs| [_,_,_,_],_,hs=>simp at hs
  ·match b,hb,hs with
   |y0::y1::y2::y3::y4::a::b::c::d::t,hb,_=>
    simp only [fH] at hb
    obtain ⟨-,-,-,-,-,⟨a0,a1⟩,⟨b0,b1⟩,⟨c0,c1⟩,⟨d0,d1⟩,-⟩:=hb
    exact (GV y0 y1 y2 y3 y4 a b c d t a0 a1 b0 b1 c0 c1 d0 d1).cast rfl rfl
   | [],_,hs| [_],_,hs| [_,_],_,hs| [_,_,_],_,hs| [_,_,_,_],_,hs| [_,_,_,_,_],_,hs| [_,_,_,_,_,_],_,hs| [_,_,_,_,_,_,_],_,hs| [_,_,_,_,_,_,_,_],_,hs=>simp at hs
  ·match b,hb,hs with
   |y0::y1::y2::y3::y4::y5::a::b::c::d::t,hb,_=>
    simp only [fH] at hb
    obtain ⟨-,-,-,-,-,-,⟨a0,a1⟩,⟨b0,b1⟩,⟨c0,c1⟩,⟨d0,d1⟩,-⟩:=hb
    exact (GU y0 y1 y2 y3 y4 y5 a b c d t a0 a1 b0 b1 c0 c1 d0 d1).cast rfl rfl
   | [],_,hs| [_],_,hs| [_,_],_,hs| [_,_,_],_,hs| [_,_,_,_],_,hs| [_,_,_,_,_],_,hs| [_,_,_,_,_,_],_,hs| [_,_,_,_,_,_,_],_,hs| [_,_,_,_,_,_,_,_],_,hs| [_,_,_,_,_,_,_,_,_],_,hs=>simp at hs
theorem EF (v:List Int):hJ v=0∨hJ v=1∨hJ v=5∨hJ v=6:=by
 unfold hJ
 split
 ·exact .inl rfl
 ·split
  ·exact .inr (.inl rfl)
  ·split
   ·split<;>split<;>simp
   ·exact .inl rfl
theorem fm (v:List Int) (hv:du v):aY Xh 161 [aZ 1 (bD v),ao (hJ v:Int)] (ao (ig v (hJ v))):=Cc v hv _ (EF v)
theorem bU (v:List Int) (hv:du v):aY Xh 161 [aZ 1 (bD v),ao 0] (ao (ig v 0)):=Cc v hv 0 (.inl rfl)
theorem fq (v:List Int):aY Xh 158 [aZ 1 (bD v),ao (hJ v:Int)] (av (gP v (hJ v))):=(Cx v _ (by omega)).cast rfl (by simp)
theorem bV (v:List Int):aY Xh 158 [aZ 1 (bD v),ao 0] (av (gP v 0)):=Cx v 0 (by omega)
theorem sR:type_of%(Xw @bP (Xw @cq (Xw @D.int.injEq (Xw @D.bool.injEq (Xw @ev @fS))))):=(Xw @bP (Xw @cq (Xw @D.int.injEq (Xw @D.bool.injEq (Xw @ev @fS)))))
theorem cH (x:Int) (l:List D):aY Xh 158 ([aZ 1 (av x::l),ao 0]) (av x):=(KT (d:= .int .u8 x) [tF,tT]).to (by simp [wk])
theorem eU:aY Xh 158 ([aZ 1 [],ao 0]) (av 0):=(KT (d:= .int .u8 0) [tT]).to (by simp [wk])
theorem D7:aY Xh 142 ([aZ 1 ([])]) (.aQ [ei (na 32 0),ax false]):=by
 have c0:= @eU
 have c1:= @eU
 have c2:= @l6 0 (by decide) (by decide) (rfl:false=false)
 exact (gW (d:= .aQ [.agg [aj 32,ax false,av 0,aj 0,aj 0,ao 0,ao 0,ao 0,ao 0,ao 0,aj 0],ax false]) [aw c0,tF,aw c1,aw c2,tF,tT]).to (by first|(simp [aI,ei,na, *];done)|(simp only [bP,cq] at*;simp [aI,ei,na, *]))
theorem D9 (d:Int) (v:List Int) (hv:du v):aY Xh 142 ([aZ 1 (av 15::av d::bD v)]) (.aQ [ei (bH 32 0 0 true d v),ax true]):=by
 have c0:= @cH 15 (av d::bD v)
 have c1:= @cH 15 (av d::bD v)
 have c2:= @l6 15 (by decide) (by decide) (rfl:false=false)
 have c3:= @lQ v hv
 let E1:EL:= [aw c0,tF,aw c1,aw c2,tF,tF,.dP (decide ((0:Int)≤(1:Int)∧(1:Int)≤(↑(Xj (av 15::av d::bD v)):Int))) true (by simp [aK]<;>omega),tT,tT,tT,tT,tC (bJ 0 (by simp [aK]<;>omega:(decide ((↑(Xj (av d::bD v)):Int)<(1:Int)))=false)),.dP (decide ((0:Int)≤(1:Int)∧(1:Int)≤(↑(Xj (Ya (Xi (1:Int)) (av 15::av d::bD v))):Int))) true (by simp [aK]<;>omega),aw c3]
 by_cases h4:jy v=0
 ·have c5:= @fm v hv
  have c6:= @fq v
  have c7:= @bU v hv
  have c8:= @bV v
  exact (gW (d:= .aQ [.agg [aj 32,ax true,av d,aj (YO.wrap YO.i8 (↑(Xm (Xf (8:Nat) (jE v)|||Xf (8:Nat) (0:Int))):Int)),aj (YO.wrap YO.i8 (↑(Xm (Xf (8:Nat) (jF v)|||Xf (8:Nat) (0:Int))):Int)),ao (kR v),ao (ig v (hJ v)),ao (YO.i64.wrap (gP v (hJ v))),ao (ig v (0:Nat)),ao (YO.i64.wrap (YO.wrap YO.i8 (gP v (0:Nat)))),aj 0],ax true]) (E1++ [tC (nt (cP 0 true h4)),aw c5,aw c6,aw c7,aw c8])).to (by clear E1;(try simp only [sR,wk,jC,ei,bH] at*);(try rw [eE ‹¬jy v=0›]);(try simp only [dE hv,eD,iy hv (Yg rfl),iz hv (Yg rfl),fJ hv,fK hv]);simp [*])
 have c9:= @bU v hv
 have QS:= @bV v
 have Rc:= @bU v hv
 have Q0:= @bV v
 exact (gW (d:= .aQ [.agg [aj 32,ax true,av d,aj (YO.wrap YO.i8 (↑(Xm (Xf (8:Nat) (jE v)|||Xf (8:Nat) (0:Int))):Int)),aj (YO.wrap YO.i8 (↑(Xm (Xf (8:Nat) (jF v)|||Xf (8:Nat) (0:Int))):Int)),ao (kR v),ao (ig v (0:Nat)),ao (YO.i64.wrap (gP v (0:Nat))),ao (ig v (0:Nat)),ao (YO.i64.wrap (YO.wrap YO.i8 (gP v (0:Nat)))),aj 0],ax true]) (E1++ [tC (nt (aH h4)),aw c9,aw QS,aw Rc,aw Q0])).to (by clear E1;(try simp only [sR,wk,jC,ei,bH] at*);(try rw [eE ‹¬jy v=0›]);(try simp only [dE hv,eD,iy hv (Yg rfl),iz hv (Yg rfl),fJ hv,fK hv]);simp [*])
theorem Ea:aY Xh 142 ([aZ 1 (av 15:: [])]) (.aQ [ei (bH 32 0 0 false 15 []),ax true]):=by
 have c0:= @cH 15 ([])
 have c1:= @cH 15 ([])
 have c2:= @l6 15 (by decide) (by decide) (rfl:false=false)
 have c3:= @jn
 have c4:= @eU
 have c5:= @eU
 exact (gW (d:= .aQ [.agg [aj 32,ax false,av 15,aj 0,aj 0,ao 0,ao 0,ao 0,ao 0,ao 0,aj 0],ax true]) ([aw c0,tF,aw c1,aw c2]++bK 8 124++ [aw c3,tT,aW,tT,aw c4,aW,tT,aw c5])).to (by (try simp only [sR,wk,jC,ei,bH] at*);(try rw [eE ‹¬jy []=0›]);(try simp only [dE iA,eD,iy iA (Yg rfl),iz iA (Yg rfl),fJ iA,fK iA]);simp [*,jE,jF,kR,hJ,ig,gP,eW])
theorem D8 (c:Int) (k0:0≤c) (k1:c≤255) (hq:kr c=false) (h2:¬c=102) (hc:¬c=15) (v:List Int) (hv:du v):aY Xh 142 ([aZ 1 (av c::bD v)]) (.aQ [ei (bH 32 0 0 false c v),ax true]):=by
 have c0:= @cH c (bD v)
 have c1:= @cH c (bD v)
 have c2:= @l6 c k0 k1 hq
 have c3:= @lQ v hv
 let E1:EL:=([aw c0,tC (by simp [aK]<;>omega:(c==(102:Int))=false),aw c1,aw c2,tF,tF,.dP (decide ((0:Int)≤(1:Int)∧(1:Int)≤(↑(Xj (av c::bD v)):Int))) true (by simp [aK]<;>omega)]++Xg 3 (tC (eT (by simp [aK]<;>omega:(c==(15:Int))=false)))++ [tC (by simp [aK]<;>omega:(c==(15:Int))=false),tF,aw c3])
 by_cases h4:jy v=0
 ·have c5:= @fm v hv
  have c6:= @fq v
  have c7:= @bU v hv
  have c8:= @bV v
  exact (gW (d:= .aQ [.agg [aj 32,ax false,av c,aj (YO.wrap YO.i8 (↑(Xm (Xf (8:Nat) (jE v)|||Xf (8:Nat) (0:Int))):Int)),aj (YO.wrap YO.i8 (↑(Xm (Xf (8:Nat) (jF v)|||Xf (8:Nat) (0:Int))):Int)),ao (kR v),ao (ig v (hJ v)),ao (YO.i64.wrap (gP v (hJ v))),ao (ig v (0:Nat)),ao (YO.i64.wrap (YO.wrap YO.i8 (gP v (0:Nat)))),aj 0],ax true]) (E1++ [tC (nt (cP 0 true h4)),aw c5,aw c6,aw c7,aw c8])).to (by clear E1;(try simp only [sR,wk,jC,ei,bH] at*);(try rw [eE ‹¬jy v=0›]);(try simp only [dE hv,eD,iy hv (Yg rfl),iz hv (Yg rfl),fJ hv,fK hv]);simp [*])
 have c9:= @bU v hv
 have QS:= @bV v
 have Rc:= @bU v hv
 have Q0:= @bV v
 exact (gW (d:= .aQ [.agg [aj 32,ax false,av c,aj (YO.wrap YO.i8 (↑(Xm (Xf (8:Nat) (jE v)|||Xf (8:Nat) (0:Int))):Int)),aj (YO.wrap YO.i8 (↑(Xm (Xf (8:Nat) (jF v)|||Xf (8:Nat) (0:Int))):Int)),ao (kR v),ao (ig v (0:Nat)),ao (YO.i64.wrap (gP v (0:Nat))),ao (ig v (0:Nat)),ao (YO.i64.wrap (YO.wrap YO.i8 (gP v (0:Nat)))),aj 0],ax true]) (E1++ [tC (nt (aH h4)),aw c9,aw QS,aw Rc,aw Q0])).to (by clear E1;(try simp only [sR,wk,jC,ei,bH] at*);(try rw [eE ‹¬jy v=0›]);(try simp only [dE hv,eD,iy hv (Yg rfl),iz hv (Yg rfl),fJ hv,fK hv]);simp [*])
theorem Eb (h:Int) (g0:0≤h) (g1:h≤255) (hq:kr h=true) (hh:¬h=102):aY Xh 142 ([aZ 1 (av h:: [])]) (.aQ [ei (na (if h / 8%2=1 then 64 else 32) (h%2*8)),ax false]):=by
 have c0:= @cH h ([])
 have c1:= @cH h ([])
 have c2:= @l5 h g0 g1 hq
 let E1:EL:= [aw c0,tC (by simp [aK]<;>omega:(h==102)=false),aw c1,aw c2,tT,tT]
 rcases cQ (decide (h / 8%2=1)) with h3|h3
 ·exact (gW (d:= .aQ [.agg [aj 64,ax false,av 0,aj 0,aj 0,ao 0,ao 0,ao 0,ao 0,ao 0,aj (h%2*8)],ax false]) (E1++ [tC h3,tT])).to (by clear E1;first|(simp [aI,ei,na, *];done)|(simp only [bP,cq] at*;simp [aI,ei,na, *]))
 exact (gW (d:= .aQ [.agg [aj 32,ax false,av 0,aj 0,aj 0,ao 0,ao 0,ao 0,ao 0,ao 0,aj (h%2*8)],ax false]) (E1++ [tC h3,tT])).to (by clear E1;first|(simp [aI,ei,na, *];done)|(simp only [bP,cq] at*;simp [aI,ei,na, *]))
theorem Ed (h:Int) (g0:0≤h) (g1:h≤255) (hq:kr h=true) (hh:¬h=102) (d:Int) (v:List Int) (hv:du v):aY Xh 142 ([aZ 1 (av h::av 15::av d::bD v)]) (.aQ [ei (bH (if h / 8%2=1 then 64 else 32) (h / 4%2*8) (h%2*8) true d v),ax true]):=by
 have c0:= @cH h (av 15::av d::bD v)
 have c1:= @cH h (av 15::av d::bD v)
 have c2:= @l5 h g0 g1 hq
 let E1:EL:= [aw c0,tC (by simp [aK]<;>omega:(h==(102:Int))=false),aw c1,aw c2,tT,.dP (decide ((0:Int)≤(1:Int)∧(1:Int)≤(↑(Xj (av h::av 15::av d::bD v)):Int))) true (by simp [aK]<;>omega)]
 rcases cQ (decide (h / (8:Int)%(2:Int)=(1:Int))) with h3|h3
 ·have c4:= @lQ v hv
  let E2:EL:=E1++ [tC h3,tF,.dP (decide ((0:Int)≤(1:Int)∧(1:Int)≤(↑(Xj (Ya (Xi (1:Int)) (av h::av 15::av d::bD v))):Int))) true (by simp [aK]<;>omega),tT,tT,tT,tT,tC (bJ 0 (by simp [aK]<;>omega:(decide ((↑(Xj (av d::bD v)):Int)<(1:Int)))=false)),.dP (decide ((0:Int)≤(1:Int)∧(1:Int)≤(↑(Xj (Ya (Xi (1:Int)) (Ya (Xi (1:Int)) (av h::av 15::av d::bD v)))):Int))) true (by simp [aK]<;>omega),aw c4]
  by_cases h5:jy v=0
  ·have c6:= @fm v hv
   have c7:= @fq v
   have c8:= @bU v hv
   have c9:= @bV v
   exact (gW (d:= .aQ [.agg [aj 64,ax true,av d,aj (YO.wrap YO.i8 (↑(Xm (Xf (8:Nat) (jE v)|||Xf (8:Nat) (h / (4:Int)%(2:Int)*(8:Int)))):Int)),aj (YO.wrap YO.i8 (↑(Xm (Xf (8:Nat) (jF v)|||Xf (8:Nat) (h%(2:Int)*(8:Int)))):Int)),ao (kR v),ao (ig v (hJ v)),ao (YO.i64.wrap (gP v (hJ v))),ao (ig v (0:Nat)),ao (YO.i64.wrap (YO.wrap YO.i8 (gP v (0:Nat)))),aj (h%(2:Int)*(8:Int))],ax true]) (E2++ [tC (nt (cP 0 true h5)),aw c6,aw c7,aw c8,aw c9])).to (by clear E1 E2;(try simp only [sR,wk,jC,ei,bH] at*);(try rw [eE ‹¬jy v=0›]);(try simp only [dE hv,eD,iy hv (Yg rfl),iz hv (Yg rfl),fJ hv,fK hv]);simp [*])
  have QS:= @bU v hv
  have Rc:= @bV v
  have Q0:= @bU v hv
  have Q8:= @bV v
  exact (gW (d:= .aQ [.agg [aj 64,ax true,av d,aj (YO.wrap YO.i8 (↑(Xm (Xf (8:Nat) (jE v)|||Xf (8:Nat) (h / (4:Int)%(2:Int)*(8:Int)))):Int)),aj (YO.wrap YO.i8 (↑(Xm (Xf (8:Nat) (jF v)|||Xf (8:Nat) (h%(2:Int)*(8:Int)))):Int)),ao (kR v),ao (ig v (0:Nat)),ao (YO.i64.wrap (gP v (0:Nat))),ao (ig v (0:Nat)),ao (YO.i64.wrap (YO.wrap YO.i8 (gP v (0:Nat)))),aj (h%(2:Int)*(8:Int))],ax true]) (E2++ [tC (nt (aH h5)),aw QS,aw Rc,aw Q0,aw Q8])).to (by clear E1 E2;(try simp only [sR,wk,jC,ei,bH] at*);(try rw [eE ‹¬jy v=0›]);(try simp only [dE hv,eD,iy hv (Yg rfl),iz hv (Yg rfl),fJ hv,fK hv]);simp [*])
 have RB:= @lQ v hv
 let E3:EL:=E1++ [tC h3,tF,.dP (decide ((0:Int)≤(1:Int)∧(1:Int)≤(↑(Xj (Ya (Xi (1:Int)) (av h::av 15::av d::bD v))):Int))) true (by simp [aK]<;>omega),tT,tT,tT,tT,tC (bJ 0 (by simp [aK]<;>omega:(decide ((↑(Xj (av d::bD v)):Int)<(1:Int)))=false)),.dP (decide ((0:Int)≤(1:Int)∧(1:Int)≤(↑(Xj (Ya (Xi (1:Int)) (Ya (Xi (1:Int)) (av h::av 15::av d::bD v)))):Int))) true (by simp [aK]<;>omega),aw RB]
 by_cases h15:jy v=0
 ·have Q9:= @fm v hv
  have Tc:= @fq v
  have S6:= @bU v hv
  have RO:= @bV v
  exact (gW (d:= .aQ [.agg [aj 32,ax true,av d,aj (YO.wrap YO.i8 (↑(Xm (Xf (8:Nat) (jE v)|||Xf (8:Nat) (h / (4:Int)%(2:Int)*(8:Int)))):Int)),aj (YO.wrap YO.i8 (↑(Xm (Xf (8:Nat) (jF v)|||Xf (8:Nat) (h%(2:Int)*(8:Int)))):Int)),ao (kR v),ao (ig v (hJ v)),ao (YO.i64.wrap (gP v (hJ v))),ao (ig v (0:Nat)),ao (YO.i64.wrap (YO.wrap YO.i8 (gP v (0:Nat)))),aj (h%(2:Int)*(8:Int))],ax true]) (E3++ [tC (nt (cP 0 true h15)),aw Q9,aw Tc,aw S6,aw RO])).to (by clear E1 E3;(try simp only [sR,wk,jC,ei,bH] at*);(try rw [eE ‹¬jy v=0›]);(try simp only [dE hv,eD,iy hv (Yg rfl),iz hv (Yg rfl),fJ hv,fK hv]);simp [*])
 have Te:= @bU v hv
 have Tq:= @bV v
 have Tm:= @bU v hv
 have RS:= @bV v
 exact (gW (d:= .aQ [.agg [aj 32,ax true,av d,aj (YO.wrap YO.i8 (↑(Xm (Xf (8:Nat) (jE v)|||Xf (8:Nat) (h / (4:Int)%(2:Int)*(8:Int)))):Int)),aj (YO.wrap YO.i8 (↑(Xm (Xf (8:Nat) (jF v)|||Xf (8:Nat) (h%(2:Int)*(8:Int)))):Int)),ao (kR v),ao (ig v (0:Nat)),ao (YO.i64.wrap (gP v (0:Nat))),ao (ig v (0:Nat)),ao (YO.i64.wrap (YO.wrap YO.i8 (gP v (0:Nat)))),aj (h%(2:Int)*(8:Int))],ax true]) (E3++ [tC (nt (aH h15)),aw Te,aw Tq,aw Tm,aw RS])).to (by clear E1 E3;(try simp only [sR,wk,jC,ei,bH] at*);(try rw [eE ‹¬jy v=0›]);(try simp only [dE hv,eD,iy hv (Yg rfl),iz hv (Yg rfl),fJ hv,fK hv]);simp [*])
theorem Ee (h:Int) (g0:0≤h) (g1:h≤255) (hq:kr h=true) (hh:¬h=102):aY Xh 142 ([aZ 1 (av h::av 15:: [])]) (.aQ [ei (bH (if h / 8%2=1 then 64 else 32) (h / 4%2*8) (h%2*8) false 15 []),ax true]):=by
 have c0:= @cH h ([av 15])
 have c1:= @cH h ([av 15])
 have c2:= @l5 h g0 g1 hq
 let E1:EL:= [aw c0,tC (by simp [aK]<;>omega:(h==102)=false),aw c1,aw c2,tT,tT]
 rcases cQ (decide (h / 8%2=1)) with h3|h3
 ·have c4:= @jn
  have c5:= @eU
  have c6:= @eU
  exact (gW (d:= .aQ [.agg [aj 64,ax false,av 15,aj (YO.wrap YO.i8 (↑(Xm (Xf (8:Nat) 0|||Xf (8:Nat) (h / 4%2*8))):Int)),aj (YO.wrap YO.i8 (↑(Xm (Xf (8:Nat) 0|||Xf (8:Nat) (h%2*8))):Int)),ao 0,ao 0,ao 0,ao 0,ao 0,aj (h%2*8)],ax true]) (E1++ [tC h3,tF,tT,tT,tT,tT,tT,tF,aw c4,tT,aW,tT,aw c5,aW,tT,aw c6])).to (by clear E1;(try simp only [sR,wk,jC,ei,bH] at*);(try rw [eE ‹¬jy []=0›]);(try simp only [dE iA,eD,iy iA (Yg rfl),iz iA (Yg rfl),fJ iA,fK iA]);simp [*,jE,jF,kR,hJ,ig,gP,eW,dJ];omega)
 have c7:= @jn
 have c8:= @eU
 have c9:= @eU
 exact (gW (d:= .aQ [.agg [aj 32,ax false,av 15,aj (YO.wrap YO.i8 (↑(Xm (Xf (8:Nat) 0|||Xf (8:Nat) (h / 4%2*8))):Int)),aj (YO.wrap YO.i8 (↑(Xm (Xf (8:Nat) 0|||Xf (8:Nat) (h%2*8))):Int)),ao 0,ao 0,ao 0,ao 0,ao 0,aj (h%2*8)],ax true]) (E1++ [tC h3,tF,tT,tT,tT,tT,tT,tF,aw c7,tT,aW,tT,aw c8,aW,tT,aw c9])).to (by clear E1;(try simp only [sR,wk,jC,ei,bH] at*);(try rw [eE ‹¬jy []=0›]);(try simp only [dE iA,eD,iy iA (Yg rfl),iz iA (Yg rfl),fJ iA,fK iA]);simp [*,jE,jF,kR,hJ,ig,gP,eW,dJ];omega)
theorem Ec (h:Int) (g0:0≤h) (g1:h≤255) (hq:kr h=true) (hh:¬h=102) (c:Int) (hc:¬c=15) (v:List Int) (hv:du v):aY Xh 142 ([aZ 1 (av h::av c::bD v)]) (.aQ [ei (bH (if h / 8%2=1 then 64 else 32) (h / 4%2*8) (h%2*8) false c v),ax true]):=by
 have c0:= @cH h (av c::bD v)
 have c1:= @cH h (av c::bD v)
 have c2:= @l5 h g0 g1 hq
 let E1:EL:= [aw c0,tC (by simp [aK]<;>omega:(h==(102:Int))=false),aw c1,aw c2,tT,.dP (decide ((0:Int)≤(1:Int)∧(1:Int)≤(↑(Xj (av h::av c::bD v)):Int))) true (by simp [aK]<;>omega)]
 rcases cQ (decide (h / (8:Int)%(2:Int)=(1:Int))) with h3|h3
 ·have c4:= @lQ v hv
  let E2:EL:=E1++ [tC h3,tF,.dP (decide ((0:Int)≤(1:Int)∧(1:Int)≤(↑(Xj (Ya (Xi (1:Int)) (av h::av c::bD v))):Int))) true (by simp [aK]<;>omega)]++Xg 3 (tC (eT (by simp [aK]<;>omega:(c==(15:Int))=false)))++ [tC (by simp [aK]<;>omega:(c==(15:Int))=false),tF,aw c4]
  by_cases h5:jy v=0
  ·have c6:= @fm v hv
   have c7:= @fq v
   have c8:= @bU v hv
   have c9:= @bV v
   exact (gW (d:= .aQ [.agg [aj 64,ax false,av c,aj (YO.wrap YO.i8 (↑(Xm (Xf (8:Nat) (jE v)|||Xf (8:Nat) (h / (4:Int)%(2:Int)*(8:Int)))):Int)),aj (YO.wrap YO.i8 (↑(Xm (Xf (8:Nat) (jF v)|||Xf (8:Nat) (h%(2:Int)*(8:Int)))):Int)),ao (kR v),ao (ig v (hJ v)),ao (YO.i64.wrap (gP v (hJ v))),ao (ig v (0:Nat)),ao (YO.i64.wrap (YO.wrap YO.i8 (gP v (0:Nat)))),aj (h%(2:Int)*(8:Int))],ax true]) (E2++ [tC (nt (cP 0 true h5)),aw c6,aw c7,aw c8,aw c9])).to (by clear E1 E2;(try simp only [sR,wk,jC,ei,bH] at*);(try rw [eE ‹¬jy v=0›]);(try simp only [dE hv,eD,iy hv (Yg rfl),iz hv (Yg rfl),fJ hv,fK hv]);simp [*])
  have QS:= @bU v hv
  have Rc:= @bV v
  have Q0:= @bU v hv
  have Q8:= @bV v
  exact (gW (d:= .aQ [.agg [aj 64,ax false,av c,aj (YO.wrap YO.i8 (↑(Xm (Xf (8:Nat) (jE v)|||Xf (8:Nat) (h / (4:Int)%(2:Int)*(8:Int)))):Int)),aj (YO.wrap YO.i8 (↑(Xm (Xf (8:Nat) (jF v)|||Xf (8:Nat) (h%(2:Int)*(8:Int)))):Int)),ao (kR v),ao (ig v (0:Nat)),ao (YO.i64.wrap (gP v (0:Nat))),ao (ig v (0:Nat)),ao (YO.i64.wrap (YO.wrap YO.i8 (gP v (0:Nat)))),aj (h%(2:Int)*(8:Int))],ax true]) (E2++ [tC (nt (aH h5)),aw QS,aw Rc,aw Q0,aw Q8])).to (by clear E1 E2;(try simp only [sR,wk,jC,ei,bH] at*);(try rw [eE ‹¬jy v=0›]);(try simp only [dE hv,eD,iy hv (Yg rfl),iz hv (Yg rfl),fJ hv,fK hv]);simp [*])
 have RB:= @lQ v hv
 let E3:EL:=E1++ [tC h3,tF,.dP (decide ((0:Int)≤(1:Int)∧(1:Int)≤(↑(Xj (Ya (Xi (1:Int)) (av h::av c::bD v))):Int))) true (by simp [aK]<;>omega)]++Xg 3 (tC (eT (by simp [aK]<;>omega:(c==(15:Int))=false)))++ [tC (by simp [aK]<;>omega:(c==(15:Int))=false),tF,aw RB]
 by_cases h15:jy v=0
 ·have Q9:= @fm v hv
  have Tc:= @fq v
  have S6:= @bU v hv
  have RO:= @bV v
  exact (gW (d:= .aQ [.agg [aj 32,ax false,av c,aj (YO.wrap YO.i8 (↑(Xm (Xf (8:Nat) (jE v)|||Xf (8:Nat) (h / (4:Int)%(2:Int)*(8:Int)))):Int)),aj (YO.wrap YO.i8 (↑(Xm (Xf (8:Nat) (jF v)|||Xf (8:Nat) (h%(2:Int)*(8:Int)))):Int)),ao (kR v),ao (ig v (hJ v)),ao (YO.i64.wrap (gP v (hJ v))),ao (ig v (0:Nat)),ao (YO.i64.wrap (YO.wrap YO.i8 (gP v (0:Nat)))),aj (h%(2:Int)*(8:Int))],ax true]) (E3++ [tC (nt (cP 0 true h15)),aw Q9,aw Tc,aw S6,aw RO])).to (by clear E1 E3;(try simp only [sR,wk,jC,ei,bH] at*);(try rw [eE ‹¬jy v=0›]);(try simp only [dE hv,eD,iy hv (Yg rfl),iz hv (Yg rfl),fJ hv,fK hv]);simp [*])
 have Te:= @bU v hv
 have Tq:= @bV v
 have Tm:= @bU v hv
 have RS:= @bV v
 exact (gW (d:= .aQ [.agg [aj 32,ax false,av c,aj (YO.wrap YO.i8 (↑(Xm (Xf (8:Nat) (jE v)|||Xf (8:Nat) (h / (4:Int)%(2:Int)*(8:Int)))):Int)),aj (YO.wrap YO.i8 (↑(Xm (Xf (8:Nat) (jF v)|||Xf (8:Nat) (h%(2:Int)*(8:Int)))):Int)),ao (kR v),ao (ig v (0:Nat)),ao (YO.i64.wrap (gP v (0:Nat))),ao (ig v (0:Nat)),ao (YO.i64.wrap (YO.wrap YO.i8 (gP v (0:Nat)))),aj (h%(2:Int)*(8:Int))],ax true]) (E3++ [tC (nt (aH h15)),aw Te,aw Tq,aw Tm,aw RS])).to (by clear E1 E3;(try simp only [sR,wk,jC,ei,bH] at*);(try rw [eE ‹¬jy v=0›]);(try simp only [dE hv,eD,iy hv (Yg rfl),iz hv (Yg rfl),fJ hv,fK hv]);simp [*])
theorem Ef:aY Xh 142 ([aZ 1 (av 102:: [])]) (.aQ [ei (na 16 0),ax false]):=by
 have c0:= @cH 102 ([])
 have c1:= @eU
 have c2:= @l6 0 (by decide) (by decide) (rfl:false=false)
 exact (gW (d:= .aQ [.agg [aj 16,ax false,av 0,aj 0,aj 0,ao 0,ao 0,ao 0,ao 0,ao 0,aj 0],ax false]) [aw c0,tT,tT,aw c1,aw c2,tF,tT]).to (by first|(simp [aI,ei,na, *];done)|(simp only [bP,cq] at*;simp [aI,ei,na, *]))
theorem Eh (d:Int) (v:List Int) (hv:du v):aY Xh 142 ([aZ 1 (av 102::av 15::av d::bD v)]) (.aQ [ei (bH 16 0 0 true d v),ax true]):=by
 have c0:= @cH 102 (av 15::av d::bD v)
 have c1:= @cH 15 (av d::bD v)
 have c2:= @l6 15 (by decide) (by decide) (rfl:false=false)
 have c3:= @lQ v hv
 let E1:EL:= [aw c0,tT,.dP (decide ((0:Int)≤(1:Int)∧(1:Int)≤(↑(Xj (av 102::av 15::av d::bD v)):Int))) true (by simp [aK]<;>omega),aw c1,aw c2,tF,tF,.dP (decide ((0:Int)≤(1:Int)∧(1:Int)≤(↑(Xj (Ya (Xi (1:Int)) (av 102::av 15::av d::bD v))):Int))) true (by simp [aK]<;>omega),tT,tT,tT,tT,tC (bJ 0 (by simp [aK]<;>omega:(decide ((↑(Xj (av d::bD v)):Int)<(1:Int)))=false)),.dP (decide ((0:Int)≤(1:Int)∧(1:Int)≤(↑(Xj (Ya (Xi (1:Int)) (Ya (Xi (1:Int)) (av 102::av 15::av d::bD v)))):Int))) true (by simp [aK]<;>omega),aw c3]
 by_cases h4:jy v=0
 ·have c5:= @fm v hv
  have c6:= @fq v
  have c7:= @bU v hv
  have c8:= @bV v
  exact (gW (d:= .aQ [.agg [aj 16,ax true,av d,aj (YO.wrap YO.i8 (↑(Xm (Xf (8:Nat) (jE v)|||Xf (8:Nat) (0:Int))):Int)),aj (YO.wrap YO.i8 (↑(Xm (Xf (8:Nat) (jF v)|||Xf (8:Nat) (0:Int))):Int)),ao (kR v),ao (ig v (hJ v)),ao (YO.i64.wrap (gP v (hJ v))),ao (ig v (0:Nat)),ao (YO.i64.wrap (YO.wrap YO.i8 (gP v (0:Nat)))),aj 0],ax true]) (E1++ [tC (nt (cP 0 true h4)),aw c5,aw c6,aw c7,aw c8])).to (by clear E1;(try simp only [sR,wk,jC,ei,bH] at*);(try rw [eE ‹¬jy v=0›]);(try simp only [dE hv,eD,iy hv (Yg rfl),iz hv (Yg rfl),fJ hv,fK hv]);simp [*])
 have c9:= @bU v hv
 have QS:= @bV v
 have Rc:= @bU v hv
 have Q0:= @bV v
 exact (gW (d:= .aQ [.agg [aj 16,ax true,av d,aj (YO.wrap YO.i8 (↑(Xm (Xf (8:Nat) (jE v)|||Xf (8:Nat) (0:Int))):Int)),aj (YO.wrap YO.i8 (↑(Xm (Xf (8:Nat) (jF v)|||Xf (8:Nat) (0:Int))):Int)),ao (kR v),ao (ig v (0:Nat)),ao (YO.i64.wrap (gP v (0:Nat))),ao (ig v (0:Nat)),ao (YO.i64.wrap (YO.wrap YO.i8 (gP v (0:Nat)))),aj 0],ax true]) (E1++ [tC (nt (aH h4)),aw c9,aw QS,aw Rc,aw Q0])).to (by clear E1;(try simp only [sR,wk,jC,ei,bH] at*);(try rw [eE ‹¬jy v=0›]);(try simp only [dE hv,eD,iy hv (Yg rfl),iz hv (Yg rfl),fJ hv,fK hv]);simp [*])
theorem Ei:aY Xh 142 ([aZ 1 (av 102::av 15:: [])]) (.aQ [ei (bH 16 0 0 false 15 []),ax true]):=by
 have c0:= @cH 102 ([av 15])
 have c1:= @cH 15 ([])
 have c2:= @l6 15 (by decide) (by decide) (rfl:false=false)
 have c3:= @jn
 have c4:= @eU
 have c5:= @eU
 exact (gW (d:= .aQ [.agg [aj 16,ax false,av 15,aj 0,aj 0,ao 0,ao 0,ao 0,ao 0,ao 0,aj 0],ax true]) ([aw c0,tT,tT,aw c1,aw c2]++bK 8 124++ [aw c3,tT,aW,tT,aw c4,aW,tT,aw c5])).to (by (try simp only [sR,wk,jC,ei,bH] at*);(try rw [eE ‹¬jy []=0›]);(try simp only [dE iA,eD,iy iA (Yg rfl),iz iA (Yg rfl),fJ iA,fK iA]);simp [*,jE,jF,kR,hJ,ig,gP,eW])
theorem Eg (c:Int) (k0:0≤c) (k1:c≤255) (hq:kr c=false) (hc:¬c=15) (v:List Int) (hv:du v):aY Xh 142 ([aZ 1 (av 102::av c::bD v)]) (.aQ [ei (bH 16 0 0 false c v),ax true]):=by
 have c0:= @cH 102 (av c::bD v)
 have c1:= @cH c (bD v)
 have c2:= @l6 c k0 k1 hq
 have c3:= @lQ v hv
 let E1:EL:=([aw c0,tT,.dP (decide ((0:Int)≤(1:Int)∧(1:Int)≤(↑(Xj (av 102::av c::bD v)):Int))) true (by simp [aK]<;>omega),aw c1,aw c2,tF,tF,.dP (decide ((0:Int)≤(1:Int)∧(1:Int)≤(↑(Xj (Ya (Xi (1:Int)) (av 102::av c::bD v))):Int))) true (by simp [aK]<;>omega)]++Xg 3 (tC (eT (by simp [aK]<;>omega:(c==(15:Int))=false)))++ [tC (by simp [aK]<;>omega:(c==(15:Int))=false),tF,aw c3])
 by_cases h4:jy v=0
 ·have c5:= @fm v hv
  have c6:= @fq v
  have c7:= @bU v hv
  have c8:= @bV v
  exact (gW (d:= .aQ [.agg [aj 16,ax false,av c,aj (YO.wrap YO.i8 (↑(Xm (Xf (8:Nat) (jE v)|||Xf (8:Nat) (0:Int))):Int)),aj (YO.wrap YO.i8 (↑(Xm (Xf (8:Nat) (jF v)|||Xf (8:Nat) (0:Int))):Int)),ao (kR v),ao (ig v (hJ v)),ao (YO.i64.wrap (gP v (hJ v))),ao (ig v (0:Nat)),ao (YO.i64.wrap (YO.wrap YO.i8 (gP v (0:Nat)))),aj 0],ax true]) (E1++ [tC (nt (cP 0 true h4)),aw c5,aw c6,aw c7,aw c8])).to (by clear E1;(try simp only [sR,wk,jC,ei,bH] at*);(try rw [eE ‹¬jy v=0›]);(try simp only [dE hv,eD,iy hv (Yg rfl),iz hv (Yg rfl),fJ hv,fK hv]);simp [*])
 have c9:= @bU v hv
 have QS:= @bV v
 have Rc:= @bU v hv
 have Q0:= @bV v
 exact (gW (d:= .aQ [.agg [aj 16,ax false,av c,aj (YO.wrap YO.i8 (↑(Xm (Xf (8:Nat) (jE v)|||Xf (8:Nat) (0:Int))):Int)),aj (YO.wrap YO.i8 (↑(Xm (Xf (8:Nat) (jF v)|||Xf (8:Nat) (0:Int))):Int)),ao (kR v),ao (ig v (0:Nat)),ao (YO.i64.wrap (gP v (0:Nat))),ao (ig v (0:Nat)),ao (YO.i64.wrap (YO.wrap YO.i8 (gP v (0:Nat)))),aj 0],ax true]) (E1++ [tC (nt (aH h4)),aw c9,aw QS,aw Rc,aw Q0])).to (by clear E1;(try simp only [sR,wk,jC,ei,bH] at*);(try rw [eE ‹¬jy v=0›]);(try simp only [dE hv,eD,iy hv (Yg rfl),iz hv (Yg rfl),fJ hv,fK hv]);simp [*])
theorem Ej (h:Int) (g0:0≤h) (g1:h≤255) (hq:kr h=true):aY Xh 142 ([aZ 1 (av 102::av h:: [])]) (.aQ [ei (na (if h / 8%2=1 then 64 else 16) (h%2*8)),ax false]):=by
 have c0:= @cH 102 ([av h])
 have c1:= @cH h ([])
 have c2:= @l5 h g0 g1 hq
 rcases cQ (decide (h / 8%2=1)) with h3|h3
 ·exact (gW (d:= .aQ [.agg [aj 64,ax false,av 0,aj 0,aj 0,ao 0,ao 0,ao 0,ao 0,ao 0,aj (h%2*8)],ax false]) [aw c0,tT,tT,aw c1,aw c2,tT,tT,tC h3,tT]).to (by first|(simp [aI,ei,na, *];done)|(simp only [bP,cq] at*;simp [aI,ei,na, *]))
 exact (gW (d:= .aQ [.agg [aj 16,ax false,av 0,aj 0,aj 0,ao 0,ao 0,ao 0,ao 0,ao 0,aj (h%2*8)],ax false]) [aw c0,tT,tT,aw c1,aw c2,tT,tT,tC h3,tT]).to (by first|(simp [aI,ei,na, *];done)|(simp only [bP,cq] at*;simp [aI,ei,na, *]))
theorem El (h:Int) (g0:0≤h) (g1:h≤255) (hq:kr h=true) (d:Int) (v:List Int) (hv:du v):aY Xh 142 ([aZ 1 (av 102::av h::av 15::av d::bD v)]) (.aQ [ei (bH (if h / 8%2=1 then 64 else 16) (h / 4%2*8) (h%2*8) true d v),ax true]):=by
 have c0:= @cH 102 (av h::av 15::av d::bD v)
 have c1:= @cH h (av 15::av d::bD v)
 have c2:= @l5 h g0 g1 hq
 let E1:EL:= [aw c0,tT,.dP (decide ((0:Int)≤(1:Int)∧(1:Int)≤(↑(Xj (av 102::av h::av 15::av d::bD v)):Int))) true (by simp [aK]<;>omega),aw c1,aw c2,tT,.dP (decide ((0:Int)≤(1:Int)∧(1:Int)≤(↑(Xj (Ya (Xi (1:Int)) (av 102::av h::av 15::av d::bD v))):Int))) true (by simp [aK]<;>omega)]
 rcases cQ (decide (h / (8:Int)%(2:Int)=(1:Int))) with h3|h3
 ·have c4:= @lQ v hv
  let E2:EL:=E1++ [tC h3,tF,.dP (decide ((0:Int)≤(1:Int)∧(1:Int)≤(↑(Xj (Ya (Xi (1:Int)) (Ya (Xi (1:Int)) (av 102::av h::av 15::av d::bD v)))):Int))) true (by simp [aK]<;>omega),tT,tT,tT,tT,tC (bJ 0 (by simp [aK]<;>omega:(decide ((↑(Xj (av d::bD v)):Int)<(1:Int)))=false)),.dP (decide ((0:Int)≤(1:Int)∧(1:Int)≤(↑(Xj (Ya (Xi (1:Int)) (Ya (Xi (1:Int)) (Ya (Xi (1:Int)) (av 102::av h::av 15::av d::bD v))))):Int))) true (by simp [aK]<;>omega),aw c4]
  by_cases h5:jy v=0
  ·have c6:= @fm v hv
   have c7:= @fq v
   have c8:= @bU v hv
   have c9:= @bV v
   exact (gW (d:= .aQ [.agg [aj 64,ax true,av d,aj (YO.wrap YO.i8 (↑(Xm (Xf (8:Nat) (jE v)|||Xf (8:Nat) (h / (4:Int)%(2:Int)*(8:Int)))):Int)),aj (YO.wrap YO.i8 (↑(Xm (Xf (8:Nat) (jF v)|||Xf (8:Nat) (h%(2:Int)*(8:Int)))):Int)),ao (kR v),ao (ig v (hJ v)),ao (YO.i64.wrap (gP v (hJ v))),ao (ig v (0:Nat)),ao (YO.i64.wrap (YO.wrap YO.i8 (gP v (0:Nat)))),aj (h%(2:Int)*(8:Int))],ax true]) (E2++ [tC (nt (cP 0 true h5)),aw c6,aw c7,aw c8,aw c9])).to (by clear E1 E2;(try simp only [sR,wk,jC,ei,bH] at*);(try rw [eE ‹¬jy v=0›]);(try simp only [dE hv,eD,iy hv (Yg rfl),iz hv (Yg rfl),fJ hv,fK hv]);simp [*])
  have QS:= @bU v hv
  have Rc:= @bV v
  have Q0:= @bU v hv
  have Q8:= @bV v
  exact (gW (d:= .aQ [.agg [aj 64,ax true,av d,aj (YO.wrap YO.i8 (↑(Xm (Xf (8:Nat) (jE v)|||Xf (8:Nat) (h / (4:Int)%(2:Int)*(8:Int)))):Int)),aj (YO.wrap YO.i8 (↑(Xm (Xf (8:Nat) (jF v)|||Xf (8:Nat) (h%(2:Int)*(8:Int)))):Int)),ao (kR v),ao (ig v (0:Nat)),ao (YO.i64.wrap (gP v (0:Nat))),ao (ig v (0:Nat)),ao (YO.i64.wrap (YO.wrap YO.i8 (gP v (0:Nat)))),aj (h%(2:Int)*(8:Int))],ax true]) (E2++ [tC (nt (aH h5)),aw QS,aw Rc,aw Q0,aw Q8])).to (by clear E1 E2;(try simp only [sR,wk,jC,ei,bH] at*);(try rw [eE ‹¬jy v=0›]);(try simp only [dE hv,eD,iy hv (Yg rfl),iz hv (Yg rfl),fJ hv,fK hv]);simp [*])
 have RB:= @lQ v hv
 let E3:EL:=E1++ [tC h3,tF,.dP (decide ((0:Int)≤(1:Int)∧(1:Int)≤(↑(Xj (Ya (Xi (1:Int)) (Ya (Xi (1:Int)) (av 102::av h::av 15::av d::bD v)))):Int))) true (by simp [aK]<;>omega),tT,tT,tT,tT,tC (bJ 0 (by simp [aK]<;>omega:(decide ((↑(Xj (av d::bD v)):Int)<(1:Int)))=false)),.dP (decide ((0:Int)≤(1:Int)∧(1:Int)≤(↑(Xj (Ya (Xi (1:Int)) (Ya (Xi (1:Int)) (Ya (Xi (1:Int)) (av 102::av h::av 15::av d::bD v))))):Int))) true (by simp [aK]<;>omega),aw RB]
 by_cases h15:jy v=0
 ·have Q9:= @fm v hv
  have Tc:= @fq v
  have S6:= @bU v hv
  have RO:= @bV v
  exact (gW (d:= .aQ [.agg [aj 16,ax true,av d,aj (YO.wrap YO.i8 (↑(Xm (Xf (8:Nat) (jE v)|||Xf (8:Nat) (h / (4:Int)%(2:Int)*(8:Int)))):Int)),aj (YO.wrap YO.i8 (↑(Xm (Xf (8:Nat) (jF v)|||Xf (8:Nat) (h%(2:Int)*(8:Int)))):Int)),ao (kR v),ao (ig v (hJ v)),ao (YO.i64.wrap (gP v (hJ v))),ao (ig v (0:Nat)),ao (YO.i64.wrap (YO.wrap YO.i8 (gP v (0:Nat)))),aj (h%(2:Int)*(8:Int))],ax true]) (E3++ [tC (nt (cP 0 true h15)),aw Q9,aw Tc,aw S6,aw RO])).to (by clear E1 E3;(try simp only [sR,wk,jC,ei,bH] at*);(try rw [eE ‹¬jy v=0›]);(try simp only [dE hv,eD,iy hv (Yg rfl),iz hv (Yg rfl),fJ hv,fK hv]);simp [*])
 have Te:= @bU v hv
 have Tq:= @bV v
 have Tm:= @bU v hv
 have RS:= @bV v
 exact (gW (d:= .aQ [.agg [aj 16,ax true,av d,aj (YO.wrap YO.i8 (↑(Xm (Xf (8:Nat) (jE v)|||Xf (8:Nat) (h / (4:Int)%(2:Int)*(8:Int)))):Int)),aj (YO.wrap YO.i8 (↑(Xm (Xf (8:Nat) (jF v)|||Xf (8:Nat) (h%(2:Int)*(8:Int)))):Int)),ao (kR v),ao (ig v (0:Nat)),ao (YO.i64.wrap (gP v (0:Nat))),ao (ig v (0:Nat)),ao (YO.i64.wrap (YO.wrap YO.i8 (gP v (0:Nat)))),aj (h%(2:Int)*(8:Int))],ax true]) (E3++ [tC (nt (aH h15)),aw Te,aw Tq,aw Tm,aw RS])).to (by clear E1 E3;(try simp only [sR,wk,jC,ei,bH] at*);(try rw [eE ‹¬jy v=0›]);(try simp only [dE hv,eD,iy hv (Yg rfl),iz hv (Yg rfl),fJ hv,fK hv]);simp [*])
theorem Em (h:Int) (g0:0≤h) (g1:h≤255) (hq:kr h=true):aY Xh 142 ([aZ 1 (av 102::av h::av 15:: [])]) (.aQ [ei (bH (if h / 8%2=1 then 64 else 16) (h / 4%2*8) (h%2*8) false 15 []),ax true]):=by
 have c0:= @cH 102 ([av h,av 15])
 have c1:= @cH h ([av 15])
 have c2:= @l5 h g0 g1 hq
 rcases cQ (decide (h / 8%2=1)) with h3|h3
 ·have c4:= @jn
  have c5:= @eU
  have c6:= @eU
  exact (gW (d:= .aQ [.agg [aj 64,ax false,av 15,aj (YO.wrap YO.i8 (↑(Xm (Xf (8:Nat) 0|||Xf (8:Nat) (h / 4%2*8))):Int)),aj (YO.wrap YO.i8 (↑(Xm (Xf (8:Nat) 0|||Xf (8:Nat) (h%2*8))):Int)),ao 0,ao 0,ao 0,ao 0,ao 0,aj (h%2*8)],ax true]) [aw c0,tT,tT,aw c1,aw c2,tT,tT,tC h3,tF,tT,tT,tT,tT,tT,tF,aw c4,tT,aW,tT,aw c5,aW,tT,aw c6]).to (by (try simp only [sR,wk,jC,ei,bH] at*);(try rw [eE ‹¬jy []=0›]);(try simp only [dE iA,eD,iy iA (Yg rfl),iz iA (Yg rfl),fJ iA,fK iA]);simp [*,jE,jF,kR,hJ,ig,gP,eW,dJ];omega)
 have c7:= @jn
 have c8:= @eU
 have c9:= @eU
 exact (gW (d:= .aQ [.agg [aj 16,ax false,av 15,aj (YO.wrap YO.i8 (↑(Xm (Xf (8:Nat) 0|||Xf (8:Nat) (h / 4%2*8))):Int)),aj (YO.wrap YO.i8 (↑(Xm (Xf (8:Nat) 0|||Xf (8:Nat) (h%2*8))):Int)),ao 0,ao 0,ao 0,ao 0,ao 0,aj (h%2*8)],ax true]) [aw c0,tT,tT,aw c1,aw c2,tT,tT,tC h3,tF,tT,tT,tT,tT,tT,tF,aw c7,tT,aW,tT,aw c8,aW,tT,aw c9]).to (by (try simp only [sR,wk,jC,ei,bH] at*);(try rw [eE ‹¬jy []=0›]);(try simp only [dE iA,eD,iy iA (Yg rfl),iz iA (Yg rfl),fJ iA,fK iA]);simp [*,jE,jF,kR,hJ,ig,gP,eW,dJ];omega)
theorem Ek (h:Int) (g0:0≤h) (g1:h≤255) (hq:kr h=true) (c:Int) (hc:¬c=15) (v:List Int) (hv:du v):aY Xh 142 ([aZ 1 (av 102::av h::av c::bD v)]) (.aQ [ei (bH (if h / 8%2=1 then 64 else 16) (h / 4%2*8) (h%2*8) false c v),ax true]):=by
 have c0:= @cH 102 (av h::av c::bD v)
 have c1:= @cH h (av c::bD v)
 have c2:= @l5 h g0 g1 hq
 let E1:EL:= [aw c0,tT,.dP (decide ((0:Int)≤(1:Int)∧(1:Int)≤(↑(Xj (av 102::av h::av c::bD v)):Int))) true (by simp [aK]<;>omega),aw c1,aw c2,tT,.dP (decide ((0:Int)≤(1:Int)∧(1:Int)≤(↑(Xj (Ya (Xi (1:Int)) (av 102::av h::av c::bD v))):Int))) true (by simp [aK]<;>omega)]
 rcases cQ (decide (h / (8:Int)%(2:Int)=(1:Int))) with h3|h3
 ·have c4:= @lQ v hv
  let E2:EL:=E1++ [tC h3,tF,.dP (decide ((0:Int)≤(1:Int)∧(1:Int)≤(↑(Xj (Ya (Xi (1:Int)) (Ya (Xi (1:Int)) (av 102::av h::av c::bD v)))):Int))) true (by simp [aK]<;>omega)]++Xg 3 (tC (eT (by simp [aK]<;>omega:(c==(15:Int))=false)))++ [tC (by simp [aK]<;>omega:(c==(15:Int))=false),tF,aw c4]
  by_cases h5:jy v=0
  ·have c6:= @fm v hv
   have c7:= @fq v
   have c8:= @bU v hv
   have c9:= @bV v
   exact (gW (d:= .aQ [.agg [aj 64,ax false,av c,aj (YO.wrap YO.i8 (↑(Xm (Xf (8:Nat) (jE v)|||Xf (8:Nat) (h / (4:Int)%(2:Int)*(8:Int)))):Int)),aj (YO.wrap YO.i8 (↑(Xm (Xf (8:Nat) (jF v)|||Xf (8:Nat) (h%(2:Int)*(8:Int)))):Int)),ao (kR v),ao (ig v (hJ v)),ao (YO.i64.wrap (gP v (hJ v))),ao (ig v (0:Nat)),ao (YO.i64.wrap (YO.wrap YO.i8 (gP v (0:Nat)))),aj (h%(2:Int)*(8:Int))],ax true]) (E2++ [tC (nt (cP 0 true h5)),aw c6,aw c7,aw c8,aw c9])).to (by clear E1 E2;(try simp only [sR,wk,jC,ei,bH] at*);(try rw [eE ‹¬jy v=0›]);(try simp only [dE hv,eD,iy hv (Yg rfl),iz hv (Yg rfl),fJ hv,fK hv]);simp [*])
  have QS:= @bU v hv
  have Rc:= @bV v
  have Q0:= @bU v hv
  have Q8:= @bV v
  exact (gW (d:= .aQ [.agg [aj 64,ax false,av c,aj (YO.wrap YO.i8 (↑(Xm (Xf (8:Nat) (jE v)|||Xf (8:Nat) (h / (4:Int)%(2:Int)*(8:Int)))):Int)),aj (YO.wrap YO.i8 (↑(Xm (Xf (8:Nat) (jF v)|||Xf (8:Nat) (h%(2:Int)*(8:Int)))):Int)),ao (kR v),ao (ig v (0:Nat)),ao (YO.i64.wrap (gP v (0:Nat))),ao (ig v (0:Nat)),ao (YO.i64.wrap (YO.wrap YO.i8 (gP v (0:Nat)))),aj (h%(2:Int)*(8:Int))],ax true]) (E2++ [tC (nt (aH h5)),aw QS,aw Rc,aw Q0,aw Q8])).to (by clear E1 E2;(try simp only [sR,wk,jC,ei,bH] at*);(try rw [eE ‹¬jy v=0›]);(try simp only [dE hv,eD,iy hv (Yg rfl),iz hv (Yg rfl),fJ hv,fK hv]);simp [*])
 have RB:= @lQ v hv
 let E3:EL:=E1++ [tC h3,tF,.dP (decide ((0:Int)≤(1:Int)∧(1:Int)≤(↑(Xj (Ya (Xi (1:Int)) (Ya (Xi (1:Int)) (av 102::av h::av c::bD v)))):Int))) true (by simp [aK]<;>omega)]++Xg 3 (tC (eT (by simp [aK]<;>omega:(c==(15:Int))=false)))++ [tC (by simp [aK]<;>omega:(c==(15:Int))=false),tF,aw RB]
 by_cases h15:jy v=0
 ·have Q9:= @fm v hv
  have Tc:= @fq v
  have S6:= @bU v hv
  have RO:= @bV v
  exact (gW (d:= .aQ [.agg [aj 16,ax false,av c,aj (YO.wrap YO.i8 (↑(Xm (Xf (8:Nat) (jE v)|||Xf (8:Nat) (h / (4:Int)%(2:Int)*(8:Int)))):Int)),aj (YO.wrap YO.i8 (↑(Xm (Xf (8:Nat) (jF v)|||Xf (8:Nat) (h%(2:Int)*(8:Int)))):Int)),ao (kR v),ao (ig v (hJ v)),ao (YO.i64.wrap (gP v (hJ v))),ao (ig v (0:Nat)),ao (YO.i64.wrap (YO.wrap YO.i8 (gP v (0:Nat)))),aj (h%(2:Int)*(8:Int))],ax true]) (E3++ [tC (nt (cP 0 true h15)),aw Q9,aw Tc,aw S6,aw RO])).to (by clear E1 E3;(try simp only [sR,wk,jC,ei,bH] at*);(try rw [eE ‹¬jy v=0›]);(try simp only [dE hv,eD,iy hv (Yg rfl),iz hv (Yg rfl),fJ hv,fK hv]);simp [*])
 have Te:= @bU v hv
 have Tq:= @bV v
 have Tm:= @bU v hv
 have RS:= @bV v
 exact (gW (d:= .aQ [.agg [aj 16,ax false,av c,aj (YO.wrap YO.i8 (↑(Xm (Xf (8:Nat) (jE v)|||Xf (8:Nat) (h / (4:Int)%(2:Int)*(8:Int)))):Int)),aj (YO.wrap YO.i8 (↑(Xm (Xf (8:Nat) (jF v)|||Xf (8:Nat) (h%(2:Int)*(8:Int)))):Int)),ao (kR v),ao (ig v (0:Nat)),ao (YO.i64.wrap (gP v (0:Nat))),ao (ig v (0:Nat)),ao (YO.i64.wrap (YO.wrap YO.i8 (gP v (0:Nat)))),aj (h%(2:Int)*(8:Int))],ax true]) (E3++ [tC (nt (aH h15)),aw Te,aw Tq,aw Tm,aw RS])).to (by clear E1 E3;(try simp only [sR,wk,jC,ei,bH] at*);(try rw [eE ‹¬jy v=0›]);(try simp only [dE hv,eD,iy hv (Yg rfl),iz hv (Yg rfl),fJ hv,fK hv]);simp [*])
theorem HR (b:List Int) (hb:du b):∃x,aY Xh 142 [aZ 1 (bD b)] (.aQ [ei x,ax (k7 b).isSome])∧∀s,k7 b=some s→x=s:=by
 have zR:∀(half:Bool) (w:Int) (p t:List Int),du t→(half=true∧p= [102]∧w=16∨half=false∧p= []∧w=32∧hd t≠102)→k7 (p++t)=gK w t→
   ∃x,aY Xh 142 [aZ 1 (bD (p++t))] (.aQ [ei x,ax (k7 (p++t)).isSome])∧∀s,k7 (p++t)=some s→x=s:=by
  intro half w p t ht hc hp
  rw [hp]
  have out:∀(x:aM) (k:Bool),aY Xh 142 [aZ 1 (bD (p++t))] (.aQ [ei x,ax k])→(k=false∧gK w t=none)∨(k=true∧gK w t=some x)→
    ∃x,aY Xh 142 [aZ 1 (bD (p++t))] (.aQ [ei x,ax (gK w t).isSome])∧∀s,gK w t=some s→x=s:=by
   rintro x k h (⟨rfl,e⟩|⟨rfl,e⟩)
   ·exact ⟨x,by rw [e];exact h,fun s hs=>by rw [e] at hs;cases hs⟩
   ·exact ⟨x,by rw [e];exact h,fun s hs=>by rw [e] at hs;exact Option.some.inj hs⟩
  match t,ht with
  | [],_=>
   rcases hc with ⟨-,rfl,rfl⟩|⟨-,rfl,rfl,-⟩
   ·exact out _ _ Ef (.inl ⟨rfl,rfl⟩)
   ·exact out _ _ D7 (.inl ⟨rfl,rfl⟩)
  |h::u,ht=>
   obtain ⟨⟨g0,g1⟩,hu⟩:=fH.1 ht
   by_cases hq:kr h=true
   ·
    have e:gK w (h::u)=hO (if h / 8%2=1 then 64 else w) (h / 4%2*8) (h%2*8) u:=by simp only [gK,if_pos hq]
    match u,hu with
    | [],_=>
     rcases hc with ⟨-,rfl,rfl⟩|⟨-,rfl,rfl,hh⟩
     ·exact out _ _ (Ej h g0 g1 hq) (.inl ⟨rfl,by rw [e];rfl⟩)
     ·exact out _ _ (Eb h g0 g1 hq (by simpa [hd] using hh)) (.inl ⟨rfl,by rw [e];rfl⟩)
    |c::v,hu=>
     obtain ⟨⟨k0,k1⟩,hv⟩:=fH.1 hu
     by_cases hc15:c=15
     ·subst hc15
      match v,hv with
      | [],_=>
       rcases hc with ⟨-,rfl,rfl⟩|⟨-,rfl,rfl,hh⟩
       ·exact out _ _ (Em h g0 g1 hq) (.inr ⟨rfl,by rw [e];rfl⟩)
       ·exact out _ _ (Ee h g0 g1 hq (by simpa [hd] using hh)) (.inr ⟨rfl,by rw [e];rfl⟩)
      |d::v,hv=>
       obtain ⟨-,hv⟩:=fH.1 hv
       rcases hc with ⟨-,rfl,rfl⟩|⟨-,rfl,rfl,hh⟩
       ·exact out _ _ (El h g0 g1 hq d v hv) (.inr ⟨rfl,by rw [e];rfl⟩)
       ·exact out _ _ (Ed h g0 g1 hq (by simpa [hd] using hh) d v hv) (.inr ⟨rfl,by rw [e];rfl⟩)
     ·rcases hc with ⟨-,rfl,rfl⟩|⟨-,rfl,rfl,hh⟩
      ·exact out _ _ (Ek h g0 g1 hq c hc15 v hv) (.inr ⟨rfl,by rw [e];exact dQ hc15⟩)
      ·exact out _ _ (Ec h g0 g1 hq (by simpa [hd] using hh) c hc15 v hv) (.inr ⟨rfl,by rw [e];exact dQ hc15⟩)
   ·
    have WZ:kr h=false:=by simpa using hq
    have e:gK w (h::u)=hO w 0 0 (h::u):=by simp only [gK,if_neg hq]
    by_cases hc15:h=15
    ·subst hc15
     match u,hu with
     | [],_=>
      rcases hc with ⟨-,rfl,rfl⟩|⟨-,rfl,rfl,hh⟩
      ·exact out _ _ Ei (.inr ⟨rfl,by rw [e];rfl⟩)
      ·exact out _ _ Ea (.inr ⟨rfl,by rw [e];rfl⟩)
     |d::v,hu=>
      obtain ⟨-,hv⟩:=fH.1 hu
      rcases hc with ⟨-,rfl,rfl⟩|⟨-,rfl,rfl,hh⟩
      ·exact out _ _ (Eh d v hv) (.inr ⟨rfl,by rw [e];rfl⟩)
      ·exact out _ _ (D9 d v hv) (.inr ⟨rfl,by rw [e];rfl⟩)
    ·rcases hc with ⟨-,rfl,rfl⟩|⟨-,rfl,rfl,hh⟩
     ·exact out _ _ (Eg h g0 g1 WZ hc15 u hu) (.inr ⟨rfl,by rw [e];exact dQ hc15⟩)
     ·exact out _ _ (D8 h g0 g1 WZ (by simpa [hd] using hh) hc15 u hu) (.inr ⟨rfl,by rw [e];exact dQ hc15⟩)
 by_cases h102:hd b=102
 ·match b,hb,h102 with
  |a::t,hb,h102=>
   have ha:a=102:=by simpa [hd] using h102
   subst ha
   exact zR true 16 [102] t (fH.1 hb).2 (.inl ⟨rfl,rfl,rfl⟩) (by simp only [k7,List.cons_append,XJ];rw [if_pos (by rfl)];rfl)
  | [],_,h=>simp [hd] at h
 ·exact zR false 32 [] b hb (.inr ⟨rfl,rfl,rfl,h102⟩) (by simp only [k7,XJ];rw [if_neg h102])
end Go.Proofs.YtbfpahigdpigpaaGreat
