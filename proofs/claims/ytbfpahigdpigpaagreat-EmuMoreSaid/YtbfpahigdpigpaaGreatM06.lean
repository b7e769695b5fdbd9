import Derived.Test.YtbfpahigdpigpaaGreatM05
/- Contracts and plain laws that a statement's proof leans on (texts merged:MdM,Az,XP0,XP1,XP1A,XP2,XP2A). -/
set_option linter.unusedVariables false
set_option linter.unusedSimpArgs false
set_option maxRecDepth 100000
set_option maxHeartbeats 8000000
namespace Go.Ev
open Go
def u64 (n:Int):Int:=IntKind.u64.wrap n
def aP (v w:Int):Int:=if w=8 then v%256 else if w=16 then v%65536 else if w=32 then v%4294967296 else v
def lH (v w:Int):Int:=
  if w=8 then u64 (IntKind.i8.wrap v) else if w=16 then u64 (IntKind.i16.wrap v) else if w=32 then u64 (IntKind.i32.wrap v) else v
def gw (v w:Int):Bool:=decide (IntKind.i64.wrap (lH v w)<0)
def tX (a b:Int):Int:=u64 ((BitVec.ofInt 64 a^^^BitVec.ofInt 64 b).toNat:Int)
def tN (a b:Int):Int:=u64 ((BitVec.ofInt 64 a&&&BitVec.ofInt 64 b).toNat:Int)
def GR (a b:Int):Int:=u64 ((BitVec.ofInt 64 a|||BitVec.ofInt 64 b).toNat:Int)
def fD (k c z s o:Bool):D:= .agg [.bool k,.bool c,.bool z,.bool s,.bool o]
def Iz (b w:Int):Int:=tN b (u64 (IntKind.i8.wrap (w - 1)))
def qs (op a b by' w:Int):Int:=
  if op=0 then u64 (a+b)
  else if op=1 then u64 (a - b)
  else if op=2 then u64 (a*b)
  else if op=3 then (if b=0 then 0 else u64 (a.tdiv b))
  else if op=4 then GR a b
  else if op=5 then tN a b
  else if op=6 then u64 (a*2^(min by'.toNat 64))
  else if op=7 then a.fdiv (2^(min by'.toNat 64))
  else if op=8 then u64 (0 - a)
  else if op=9 then (if b=0 then a else a.tmod b)
  else if op=10 then tX a b
  else if op=11 then b
  else u64 ((IntKind.i64.wrap (lH a w)).fdiv (2^(min by'.toNat 64)))
def gl (op w a b:Int):Int:=aP (qs op (aP a w) (aP b w) (Iz (aP b w) w) w) w
theorem H4 {x c:Int} {v:Bool} (h:(x==c)=v):decide (x≠c)= !v:=by
 rw [← h];by_cases e:x=c<;>simp [e]
def rg (l:List Int) (i:Int):Int:=l.getD i.toNat 0
def st (j i v r:Int):Int:=if i=j then v else r
theorem dD {i:Int} (h0:0≤i) (h1:i≤15):decide ((0:Int)≤i∧i<((16:Nat):Int))=true:=by
 rw [decide_eq_true_eq];omega
def Ik (i v r0 r1 r2 r3 r4 r5 r6 r7 r8 r9 r10 r11 r12 r13 r14 r15:Int) (tl:List D):List D:= .int .u64 (st 0 i v r0):: .int .u64 (st 1 i v r1):: .int .u64 (st 2 i v r2):: .int .u64 (st 3 i v r3):: .int .u64 (st 4 i v r4):: .int .u64 (st 5 i v r5):: .int .u64 (st 6 i v r6):: .int .u64 (st 7 i v r7):: .int .u64 (st 8 i v r8):: .int .u64 (st 9 i v r9):: .int .u64 (st 10 i v r10):: .int .u64 (st 11 i v r11):: .int .u64 (st 12 i v r12):: .int .u64 (st 13 i v r13):: .int .u64 (st 14 i v r14):: .int .u64 (st 15 i v r15)::tl
abbrev uu:D:= .undef
abbrev yM (l:List D) (i:Nat) (xs l':List D):Prop:=l.take i++(xs++l.drop (i+xs.length))=l'∧i+xs.length≤l.length
abbrev gB (l:List D) (i n:Nat) (l':List D):Prop:=(l.drop i).take n=l'∧i+n≤l.length
section
variable {r0 r1 r2 r3 r4 r5 r6 r7 r8 r9 r10 r11 r12 r13 r14 r15 i v:Int} {tl:List D}
theorem kZ (h0:0≤i) (h1:i≤15):(D.int .u64 r0::D.int .u64 r1::D.int .u64 r2::D.int .u64 r3::D.int .u64 r4::D.int .u64 r5::D.int .u64 r6::D.int .u64 r7::D.int .u64 r8::D.int .u64 r9::D.int .u64 r10::D.int .u64 r11::D.int .u64 r12::D.int .u64 r13::D.int .u64 r14::D.int .u64 r15::tl:List D)[0+i.toNat*1]? =
  some (.int .u64 (rg [r0,r1,r2,r3,r4,r5,r6,r7,r8,r9,r10,r11,r12,r13,r14,r15] i)):=by
 obtain ⟨n,rfl⟩:=gy h0 h1
 have:n.val=0∨n.val=1∨n.val=2∨n.val=3∨n.val=4∨n.val=5∨n.val=6∨n.val=7∨n.val=8∨n.val=9∨n.val=10∨n.val=11∨n.val=12∨n.val=13∨n.val=14∨n.val=15:=by omega
 rcases this with e|e|e|e|e|e|e|e|e|e|e|e|e|e|e|e<;>rw [e]<;>rfl
theorem sD (h0:0≤i) (h1:i≤15):yM (D.int .u64 r0::D.int .u64 r1::D.int .u64 r2::D.int .u64 r3::D.int .u64 r4::D.int .u64 r5::D.int .u64 r6::D.int .u64 r7::D.int .u64 r8::D.int .u64 r9::D.int .u64 r10::D.int .u64 r11::D.int .u64 r12::D.int .u64 r13::D.int .u64 r14::D.int .u64 r15::tl:List D) (0+i.toNat*1) [D.int .u64 v]
  (D.int .u64 (st 0 i v r0)::D.int .u64 (st 1 i v r1)::D.int .u64 (st 2 i v r2)::D.int .u64 (st 3 i v r3)::D.int .u64 (st 4 i v r4)::D.int .u64 (st 5 i v r5)::D.int .u64 (st 6 i v r6)::D.int .u64 (st 7 i v r7)::D.int .u64 (st 8 i v r8)::D.int .u64 (st 9 i v r9)::D.int .u64 (st 10 i v r10)::D.int .u64 (st 11 i v r11)::D.int .u64 (st 12 i v r12)::D.int .u64 (st 13 i v r13)::D.int .u64 (st 14 i v r14)::D.int .u64 (st 15 i v r15)::tl):=by
 obtain ⟨n,rfl⟩:=gy h0 h1
 have:n.val=0∨n.val=1∨n.val=2∨n.val=3∨n.val=4∨n.val=5∨n.val=6∨n.val=7∨n.val=8∨n.val=9∨n.val=10∨n.val=11∨n.val=12∨n.val=13∨n.val=14∨n.val=15:=by omega
 rcases this with e|e|e|e|e|e|e|e|e|e|e|e|e|e|e|e<;>rw [e]<;>refine ⟨rfl,by simp⟩
end
end Go.Ev
namespace Go.Proofs.YtbfpahigdpigpaaGreat
open Go Go.Ev
abbrev EL:=List (Ev Tryz.prog)
theorem dT (b:Bool):b=true∨b=false:=Bool.eq_false_or_eq_true b
theorem cB:(∀ {p:Prop} [Decidable p],(decide p=true)=p)∧(∀ {p:Prop} [Decidable p],(decide p=false)↔ ¬p)∧(∀(b:Bool),(¬(b=true))=(b=false))∧(∀ {α:Type} [BEq α] [LawfulBEq α] {a b:α},(a==b)=true↔a=b)∧(∀ {α:Type} [BEq α] [LawfulBEq α] {a b:α},(a==b)=false↔a≠b)∧(∀(a b:Bool),(D.bool a=D.bool b)=(a=b)):=⟨@decide_eq_true_eq,@decide_eq_false_iff_not,@Bool.not_eq_true,@beq_iff_eq,@beq_eq_false_iff_ne,@D.bool.injEq⟩
theorem dK:(∀n:Int,IntKind.i8.wrap n=(n+128)%256 - 128)∧(∀n:Int,IntKind.u8.wrap n=n%256)∧(∀n:Int,IntKind.i64.wrap n=(n+9223372036854775808)%18446744073709551616 - 9223372036854775808)∧(∀n:Int,IntKind.u64.wrap n=n%18446744073709551616)∧(∀ {p:Prop} [Decidable p],(decide p=true)=p)∧(∀ {p:Prop} [Decidable p],(decide p=false)↔ ¬p)∧(∀ {α:Type} [BEq α] [LawfulBEq α] {a b:α},(a==b)=true↔a=b)∧(∀ {α:Type} [BEq α] [LawfulBEq α] {a b:α},(a !=b)=true↔a≠b)∧(∀ {α:Type} [BEq α] [LawfulBEq α] {a b:α},(a==b)=false↔a≠b)∧(∀ {α:Type} [BEq α] [LawfulBEq α] {a b:α},(a !=b)=false↔a=b)∧(∀(b:Bool),((!b)=true)=(b=false))∧(∀(b:Bool),((!b)=false)=(b=true))∧(∀(a b:Bool),((a&&b)=true)=(a=true∧b=true))∧(∀(a b:Bool),((a||b)=true)=(a=true∨b=true)):=⟨@ke,@dt,@ct,@eM,@decide_eq_true_eq,@decide_eq_false_iff_not,@beq_iff_eq,@bne_iff_ne,@beq_eq_false_iff_ne,@bne_eq_false_iff_eq,@Bool.not_eq_true',@Bool.not_eq_false',@Bool.and_eq_true,@Bool.or_eq_true⟩
def OE (n:Nat) (f:Func):Prop:= ∀ {x:List D} {d:D} (o:EL),ti Tryz.prog f x o=some (d,o7 o True)→aE Tryz.prog n x d
theorem o0:OE 0 Tryz.f0:=aE.ae mixed Tryz.func0 (by kernel_rfl)
theorem o1:OE 1 Tryz.f1:=aE.ae mixed Tryz.func1 (by kernel_rfl)
theorem o2:OE 2 Tryz.f2:=aE.ae mixed Tryz.func2 (by kernel_rfl)
theorem o3:OE 3 Tryz.f3:=aE.ae mixed Tryz.func3 (by kernel_rfl)
theorem o4:OE 4 Tryz.f4:=aE.ae mixed Tryz.func4 (by kernel_rfl)
theorem o8:OE 8 Tryz.f8:=aE.ae mixed Tryz.func8 (by kernel_rfl)
theorem o9:OE 9 Tryz.f9:=aE.ae mixed Tryz.func9 (by kernel_rfl)
theorem Fm:OE 11 Tryz.f11:=aE.ae mixed Tryz.func11 (by kernel_rfl)
theorem aI:OE 12 Tryz.f12:=aE.ae mixed Tryz.func12 (by kernel_rfl)
theorem aH:OE 13 Tryz.f13:=aE.ae mixed Tryz.func13 (by kernel_rfl)
theorem aG:OE 14 Tryz.f14:=aE.ae mixed Tryz.func14 (by kernel_rfl)
theorem aF:OE 15 Tryz.f15:=aE.ae mixed Tryz.func15 (by kernel_rfl)
theorem Fl:OE 16 Tryz.f16:=aE.ae mixed Tryz.func16 (by kernel_rfl)
theorem oa:OE 26 Tryz.f26:=aE.ae mixed Tryz.func26 (by kernel_rfl)
theorem ot:OE 27 Tryz.f27:=aE.ae mixed Tryz.func27 (by kernel_rfl)
theorem lK:OE 30 Tryz.f30:=aE.ae mixed Tryz.func30 (by kernel_rfl)
theorem uQ:OE 31 Tryz.f31:=aE.ae mixed Tryz.func31 (by kernel_rfl)
theorem iT:OE 43 Tryz.f43:=aE.ae mixed Tryz.func43 (by kernel_rfl)
theorem cW:OE 72 Tryz.f72:=aE.ae mixed Tryz.func72 (by kernel_rfl)
theorem kU:OE 73 Tryz.f73:=aE.ae mixed Tryz.func73 (by kernel_rfl)
theorem GD:OE 75 Tryz.f75:=aE.ae mixed Tryz.func75 (by kernel_rfl)
theorem Im:OE 76 Tryz.f76:=aE.ae mixed Tryz.func76 (by kernel_rfl)
theorem Il:OE 77 Tryz.f77:=aE.ae mixed Tryz.func77 (by kernel_rfl)
theorem jK:OE 83 Tryz.f83:=aE.ae mixed Tryz.func83 (by kernel_rfl)
theorem gC:OE 98 Tryz.f98:=aE.ae mixed Tryz.func98 (by kernel_rfl)
theorem H3:OE 99 Tryz.f99:=aE.ae mixed Tryz.func99 (by kernel_rfl)
theorem G0:OE 100 Tryz.f100:=aE.ae mixed Tryz.func100 (by kernel_rfl)
theorem Eh:OE 101 Tryz.f101:=aE.ae mixed Tryz.func101 (by kernel_rfl)
theorem CL:OE 102 Tryz.f102:=aE.ae mixed Tryz.func102 (by kernel_rfl)
theorem GZ:OE 104 Tryz.f104:=aE.ae mixed Tryz.func104 (by kernel_rfl)
theorem GY:OE 105 Tryz.f105:=aE.ae mixed Tryz.func105 (by kernel_rfl)
theorem HK:OE 106 Tryz.f106:=aE.ae mixed Tryz.func106 (by kernel_rfl)
theorem GX:OE 108 Tryz.f108:=aE.ae mixed Tryz.func108 (by kernel_rfl)
theorem HJ:OE 116 Tryz.f116:=aE.ae mixed Tryz.func116 (by kernel_rfl)
theorem GW:OE 136 Tryz.f136:=aE.ae mixed Tryz.func136 (by kernel_rfl)
theorem GV:OE 137 Tryz.f137:=aE.ae mixed Tryz.func137 (by kernel_rfl)
theorem GU:OE 138 Tryz.f138:=aE.ae mixed Tryz.func138 (by kernel_rfl)
theorem fq:OE 142 Tryz.f142:=aE.ae mixed Tryz.func142 (by kernel_rfl)
theorem fK:OE 157 Tryz.f157:=aE.ae mixed Tryz.func157 (by kernel_rfl)
theorem Eg:OE 158 Tryz.f158:=aE.ae mixed Tryz.func158 (by kernel_rfl)
theorem Aj:OE 159 Tryz.f159:=aE.ae mixed Tryz.func159 (by kernel_rfl)
theorem sO:OE 160 Tryz.f160:=aE.ae mixed Tryz.func160 (by kernel_rfl)
theorem CK:OE 161 Tryz.f161:=aE.ae mixed Tryz.func161 (by kernel_rfl)
theorem GS:OE 167 Tryz.f167:=aE.ae mixed Tryz.func167 (by kernel_rfl)
theorem HI:OE 168 Tryz.f168:=aE.ae mixed Tryz.func168 (by kernel_rfl)
theorem HH:OE 169 Tryz.f169:=aE.ae mixed Tryz.func169 (by kernel_rfl)
theorem oA (a b c d:Int) (a0:0≤a) (a1:a≤255) (b0:0≤b) (b1:b≤255) (c0:0≤c) (c1:c≤255) (d0:0≤d) (d1:d≤255):aE Tryz.prog 169 ([.aj .no 1 [.int .u8 a,.int .u8 b,.int .u8 c,.int .u8 d]]) (.int .u64 (a+256*b+65536*c+16777216*d)):=by
 exact (HH (d:= .int .u64 (IntKind.wrap IntKind.u64 (↑(BitVec.toNat (BitVec.ofInt (64:Nat) (IntKind.wrap IntKind.u64 (IntKind.wrap IntKind.u64 (↑(BitVec.toNat (BitVec.ofInt (64:Nat) (IntKind.wrap IntKind.u64 (IntKind.wrap IntKind.u64 (↑(BitVec.toNat (BitVec.ofInt (64:Nat) (IntKind.wrap IntKind.u64 (IntKind.wrap IntKind.u64 (↑(BitVec.toNat (BitVec.ofInt (64:Nat) 0|||BitVec.ofInt (64:Nat) (IntKind.wrap IntKind.u64 d))):Int)*256))|||BitVec.ofInt (64:Nat) (IntKind.wrap IntKind.u64 c))):Int)*256))|||BitVec.ofInt (64:Nat) (IntKind.wrap IntKind.u64 b))):Int)*256))|||BitVec.ofInt (64:Nat) (IntKind.wrap IntKind.u64 a))):Int))) [.go 64,tT,tT,.get ([.int .u8 a,.int .u8 b,.int .u8 c,.int .u8 d]) 3 (.int .u8 d) rfl,tT,tT,.get ([.int .u8 a,.int .u8 b,.int .u8 c,.int .u8 d]) 2 (.int .u8 c) rfl,tT,tT,.get ([.int .u8 a,.int .u8 b,.int .u8 c,.int .u8 d]) 1 (.int .u8 b) rfl,tT,tT,.get ([.int .u8 a,.int .u8 b,.int .u8 c,.int .u8 d]) 0 (.int .u8 a) rfl,tF] (by kernel_rfl)).to (by simp only [wk,D.int.injEq,true_and];rw [FK (y:=d) (by omega) (by omega),yg (x:=d) (y:=c) (by omega) (by omega) (by omega) (by omega),yg (x:=d*256+c) (y:=b) (by omega) (by omega) (by omega) (by omega),yg (x:=(d*256+c)*256+b) (y:=a) (by omega) (by omega) (by omega) (by omega)];omega)
theorem oY (a b c d:Int) (a0:0≤a) (a1:a≤255) (b0:0≤b) (b1:b≤255) (c0:0≤c) (c1:c≤255) (d0:0≤d) (d1:d≤255):aE Tryz.prog 168 ([.aj .no 1 [.int .u8 a,.int .u8 b,.int .u8 c,.int .u8 d]]) (.int .i64 (eu a b c d)):=by
 exact (HI (d:= .int .i64 (IntKind.i64.wrap (↑(BitVec.toNat (BitVec.ofInt (64:Nat) (IntKind.i64.wrap (IntKind.i64.wrap (↑(BitVec.toNat (BitVec.ofInt (64:Nat) (IntKind.i64.wrap (IntKind.i64.wrap (↑(BitVec.toNat (BitVec.ofInt (64:Nat) (IntKind.i64.wrap (IntKind.i64.wrap (IntKind.wrap IntKind.i8 d)*256))|||BitVec.ofInt (64:Nat) (IntKind.wrap IntKind.i64 c))):Int)*256))|||BitVec.ofInt (64:Nat) (IntKind.wrap IntKind.i64 b))):Int)*256))|||BitVec.ofInt (64:Nat) (IntKind.wrap IntKind.i64 a))):Int))) [tT,tF,tT,.get ([.int .u8 a,.int .u8 b,.int .u8 c,.int .u8 d]) 3 (.int .u8 d) rfl,.go 64,tT,tT,.get ([.int .u8 a,.int .u8 b,.int .u8 c,.int .u8 d]) 2 (.int .u8 c) rfl,tT,tT,.get ([.int .u8 a,.int .u8 b,.int .u8 c,.int .u8 d]) 1 (.int .u8 b) rfl,tT,tT,.get ([.int .u8 a,.int .u8 b,.int .u8 c,.int .u8 d]) 0 (.int .u8 a) rfl,tF] (by kernel_rfl)).to (by simp only [wk,D.int.injEq,true_and,ke];rw [show IntKind.i64.wrap ((d+128)%256 - 128)=(d+128)%256 - 128 by rw [ct];omega,wm (x:=(d+128)%256 - 128) (y:=c) (by omega) (by omega) (by omega) (by omega),wm (x:=((d+128)%256 - 128)*256+c) (y:=b) (by omega) (by omega) (by omega) (by omega),wm (x:=(((d+128)%256 - 128)*256+c)*256+b) (y:=a) (by omega) (by omega) (by omega) (by omega)];simp only [eu];omega)
theorem yf (b:List Int) (i:Int) (hi:0≤i):aE Tryz.prog 158 ([.aj .no 1 (bD b),.int .i64 i]) (.int .u8 (fh b i.toNat)):=by
 rcases dT (decide ((↑(List.length (bD b)):Int)≤i)) with h0|h0
 ·exact (Eg (d:= .int .u8 0) [tC h0] (by kernel_rfl)).to (by simp only [wk,D.int.injEq,true_and];first|done|(symm;apply uI;simp only [decide_eq_true_eq] at*;omega))
 exact (Eg (d:= .int .u8 (fh b (Int.toNat i))) [tC h0,tC (v:=true) (bR 0 (decide_eq_false (Int.not_lt.2 hi))),.get _ _ _ (@Gl b i hi (by (simp only [dK] at*;omega)))] (by kernel_rfl)).to (by simp only [wk,D.int.injEq,true_and];first|done|(symm;apply uI;simp only [decide_eq_true_eq] at*;omega))
theorem BI (b:List Int) (i:Int) (hi:0≤i) (h6:i≤6) (hs:((bD b).length:Int)<i+4):aE Tryz.prog 161 ([.aj .no 1 (bD b),.int .i64 i]) (.int .i64 0):=by
 exact (CK (d:= .int .i64 0) [tC (by (simp only [dK] at*;omega):(decide ((↑(List.length (bD b)):Int)<IntKind.i64.wrap (i+4)))=true)] (by kernel_rfl)).to (by simp [wk])
theorem kp (v:Int) (v0:0≤v) (v1:v≤255) (hq:iL v=true):aE Tryz.prog 159 ([.int .u8 v]) (.aA [.bool (decide (v / 8%2=1)),.int .i8 (v / 4%2*8),.int .i8 (v%2*8),.bool true]):=by
 by_cases h0:Int.fdiv v 16=4
 ·let E1:EL:=(List.replicate 3 (tC (eF (nt (de 4 true h0))))++ [tC (nt (de 4 true h0))])
  by_cases h1:IntKind.wrap IntKind.u8 (↑(BitVec.toNat (BitVec.ofInt (8:Nat) v&&&BitVec.ofInt (8:Nat) 2)):Int)=0
  ·exact (Aj (d:= .aA [.bool (IntKind.wrap IntKind.u8 (↑(BitVec.toNat (BitVec.ofInt (8:Nat) v&&&BitVec.ofInt (8:Nat) 8)):Int) !=0),.int .i8 (IntKind.wrap IntKind.i8 (IntKind.wrap IntKind.u8 (↑(BitVec.toNat (BitVec.ofInt (8:Nat) (IntKind.wrap IntKind.u8 (v*2))&&&BitVec.ofInt (8:Nat) 8)):Int))),.int .i8 (IntKind.wrap IntKind.i8 (IntKind.wrap IntKind.u8 (↑(BitVec.toNat (BitVec.ofInt (8:Nat) (IntKind.wrap IntKind.u8 (v*8))&&&BitVec.ofInt (8:Nat) 8)):Int))),.bool true]) (E1++ [tC (nt (de 0 true h1))]) (by kernel_rfl)).to (by clear E1;simp only [wk,aw,D.int.injEq,D.bool.injEq,true_and,and_true];obtain ⟨n,rfl⟩:=kC v0 v1;clear v0 v1;revert n;decide+kernel)
  exact (Aj (d:= .aA [.bool false,.int .i8 0,.int .i8 0,.bool false]) (E1++ [tC (nt (av h1))]) (by kernel_rfl)).to (by clear E1;simp only [wk,aw,D.int.injEq,D.bool.injEq,true_and,and_true];obtain ⟨n,rfl⟩:=kC v0 v1;clear v0 v1;revert n;decide+kernel)
 exact (Aj (d:= .aA [.bool false,.int .i8 0,.int .i8 0,.bool false]) (List.replicate 3 (tC (eF (nt (av h0))))++ [tC (nt (av h0)),tT]) (by kernel_rfl)).to (by simp only [wk,aw,D.int.injEq,D.bool.injEq,true_and,and_true];obtain ⟨n,rfl⟩:=kC v0 v1;clear v0 v1;revert n;decide+kernel)
theorem kq (v:Int) (v0:0≤v) (v1:v≤255) (hq:iL v=false):aE Tryz.prog 159 ([.int .u8 v]) (.aA [.bool false,.int .i8 0,.int .i8 0,.bool false]):=by
 by_cases h0:Int.fdiv v 16=4
 ·let E1:EL:=(List.replicate 3 (tC (eF (nt (de 4 true h0))))++ [tC (nt (de 4 true h0))])
  by_cases h1:IntKind.wrap IntKind.u8 (↑(BitVec.toNat (BitVec.ofInt (8:Nat) v&&&BitVec.ofInt (8:Nat) 2)):Int)=0
  ·exact (Aj (d:= .aA [.bool (IntKind.wrap IntKind.u8 (↑(BitVec.toNat (BitVec.ofInt (8:Nat) v&&&BitVec.ofInt (8:Nat) 8)):Int) !=0),.int .i8 (IntKind.wrap IntKind.i8 (IntKind.wrap IntKind.u8 (↑(BitVec.toNat (BitVec.ofInt (8:Nat) (IntKind.wrap IntKind.u8 (v*2))&&&BitVec.ofInt (8:Nat) 8)):Int))),.int .i8 (IntKind.wrap IntKind.i8 (IntKind.wrap IntKind.u8 (↑(BitVec.toNat (BitVec.ofInt (8:Nat) (IntKind.wrap IntKind.u8 (v*8))&&&BitVec.ofInt (8:Nat) 8)):Int))),.bool true]) (E1++ [tC (nt (de 0 true h1))]) (by kernel_rfl)).to (by clear E1;first|(simp [wk,aw];done)|(simp only [wk,aw,D.int.injEq,D.bool.injEq,true_and,and_true];obtain ⟨n,rfl⟩:=kC v0 v1;clear v0 v1;revert n;decide+kernel))
  exact (Aj (d:= .aA [.bool false,.int .i8 0,.int .i8 0,.bool false]) (E1++ [tC (nt (av h1))]) (by kernel_rfl)).to (by clear E1;first|(simp [wk,aw];done)|(simp only [wk,aw,D.int.injEq,D.bool.injEq,true_and,and_true];obtain ⟨n,rfl⟩:=kC v0 v1;clear v0 v1;revert n;decide+kernel))
 exact (Aj (d:= .aA [.bool false,.int .i8 0,.int .i8 0,.bool false]) (List.replicate 3 (tC (eF (nt (av h0))))++ [tC (nt (av h0)),tT]) (by kernel_rfl)).to (by first|(simp [wk,aw];done)|(simp only [wk,aw,D.int.injEq,D.bool.injEq,true_and,and_true];obtain ⟨n,rfl⟩:=kC v0 v1;clear v0 v1;revert n;decide+kernel))
theorem BM (a b c d:Int) (t:List Int) (a0:0≤a) (a1:a≤255) (b0:0≤b) (b1:b≤255) (c0:0≤c) (c1:c≤255) (d0:0≤d) (d1:d≤255):aE Tryz.prog 161 ([.aj .no 1 (.int .u8 a:: .int .u8 b:: .int .u8 c:: .int .u8 d::bD t),.int .i64 0]) (.int .i64 (eu a b c d)):=by
 have c0:= @oA a b c d a0 a1 b0 b1 c0 c1 d0 d1
 exact (CK (d:= .int .i64 (IntKind.i64.wrap (IntKind.wrap IntKind.i32 (a+(256:Int)*b+(65536:Int)*c+(16777216:Int)*d)))) [tF,.cU (decide ((0:Int)≤(0:Int)∧(0:Int)≤IntKind.i64.wrap ((0:Int)+(4:Int))∧IntKind.i64.wrap ((0:Int)+(4:Int))≤(↑(List.length (.int .u8 a:: .int .u8 b:: .int .u8 c:: .int .u8 d::bD t)):Int))) true (by ((try simp only [List.length_cons,aN,dK] at*);omega)),.ret _ _ _ c0] (by kernel_rfl)).to (by simp only [wk,D.int.injEq,true_and,uj,ct,eu];omega)
theorem BL (y0 a b c d:Int) (t:List Int) (a0:0≤a) (a1:a≤255) (b0:0≤b) (b1:b≤255) (c0:0≤c) (c1:c≤255) (d0:0≤d) (d1:d≤255):aE Tryz.prog 161 ([.aj .no 1 (.int .u8 y0:: .int .u8 a:: .int .u8 b:: .int .u8 c:: .int .u8 d::bD t),.int .i64 1]) (.int .i64 (eu a b c d)):=by
 have c0:= @oA a b c d a0 a1 b0 b1 c0 c1 d0 d1
 exact (CK (d:= .int .i64 (IntKind.i64.wrap (IntKind.wrap IntKind.i32 (a+(256:Int)*b+(65536:Int)*c+(16777216:Int)*d)))) [tF,.cU (decide ((0:Int)≤(1:Int)∧(1:Int)≤IntKind.i64.wrap ((1:Int)+(4:Int))∧IntKind.i64.wrap ((1:Int)+(4:Int))≤(↑(List.length (.int .u8 y0:: .int .u8 a:: .int .u8 b:: .int .u8 c:: .int .u8 d::bD t)):Int))) true (by ((try simp only [List.length_cons,aN,dK] at*);omega)),.ret _ _ _ c0] (by kernel_rfl)).to (by simp only [wk,D.int.injEq,true_and,uj,ct,eu];omega)
theorem BK (y0 y1 y2 y3 y4 a b c d:Int) (t:List Int) (a0:0≤a) (a1:a≤255) (b0:0≤b) (b1:b≤255) (c0:0≤c) (c1:c≤255) (d0:0≤d) (d1:d≤255):aE Tryz.prog 161 ([.aj .no 1 (.int .u8 y0:: .int .u8 y1:: .int .u8 y2:: .int .u8 y3:: .int .u8 y4:: .int .u8 a:: .int .u8 b:: .int .u8 c:: .int .u8 d::bD t),.int .i64 5]) (.int .i64 (eu a b c d)):=by
 have c0:= @oA a b c d a0 a1 b0 b1 c0 c1 d0 d1
 exact (CK (d:= .int .i64 (IntKind.i64.wrap (IntKind.wrap IntKind.i32 (a+(256:Int)*b+(65536:Int)*c+(16777216:Int)*d)))) [tF,.cU (decide ((0:Int)≤(5:Int)∧(5:Int)≤IntKind.i64.wrap ((5:Int)+(4:Int))∧IntKind.i64.wrap ((5:Int)+(4:Int))≤(↑(List.length (.int .u8 y0:: .int .u8 y1:: .int .u8 y2:: .int .u8 y3:: .int .u8 y4:: .int .u8 a:: .int .u8 b:: .int .u8 c:: .int .u8 d::bD t)):Int))) true (by ((try simp only [List.length_cons,aN,dK] at*);omega)),.ret _ _ _ c0] (by kernel_rfl)).to (by simp only [wk,D.int.injEq,true_and,uj,ct,eu];omega)
theorem BJ (y0 y1 y2 y3 y4 y5 a b c d:Int) (t:List Int) (a0:0≤a) (a1:a≤255) (b0:0≤b) (b1:b≤255) (c0:0≤c) (c1:c≤255) (d0:0≤d) (d1:d≤255):aE Tryz.prog 161 ([.aj .no 1 (.int .u8 y0:: .int .u8 y1:: .int .u8 y2:: .int .u8 y3:: .int .u8 y4:: .int .u8 y5:: .int .u8 a:: .int .u8 b:: .int .u8 c:: .int .u8 d::bD t),.int .i64 6]) (.int .i64 (eu a b c d)):=by
 have c0:= @oA a b c d a0 a1 b0 b1 c0 c1 d0 d1
 exact (CK (d:= .int .i64 (IntKind.i64.wrap (IntKind.wrap IntKind.i32 (a+(256:Int)*b+(65536:Int)*c+(16777216:Int)*d)))) [tF,.cU (decide ((0:Int)≤(6:Int)∧(6:Int)≤IntKind.i64.wrap ((6:Int)+(4:Int))∧IntKind.i64.wrap ((6:Int)+(4:Int))≤(↑(List.length (.int .u8 y0:: .int .u8 y1:: .int .u8 y2:: .int .u8 y3:: .int .u8 y4:: .int .u8 y5:: .int .u8 a:: .int .u8 b:: .int .u8 c:: .int .u8 d::bD t)):Int))) true (by ((try simp only [List.length_cons,aN,dK] at*);omega)),.ret _ _ _ c0] (by kernel_rfl)).to (by simp only [wk,D.int.injEq,true_and,uj,ct,eu];omega)
theorem gO:aE Tryz.prog 160 ([.aj .no 1 []]) (.aA [.int .i8 0,.int .i8 0,.int .i64 0,.bool false,.int .i64 0,.int .i64 30]):=by
 exact (sO (d:= .aA [.int .i8 0,.int .i8 0,.int .i64 0,.bool false,.int .i64 0,.int .i64 30]) [tT] (by kernel_rfl)).to (by simp [wk,aw])
theorem Ao (v:Int) (v0:0≤v) (v1:v≤255) (t:List Int) (h3:v / 64=3):aE Tryz.prog 160 ([.aj .no 1 (.int .u8 v::bD t)]) (.aA [.int .i8 (v / 8%8),.int .i8 (v%8),.int .i64 (0),.bool false,.int .i64 1,.int .i64 0]):=by
 exact (sO (d:= .aA [.int .i8 (IntKind.wrap IntKind.i8 (IntKind.wrap IntKind.u8 (↑(BitVec.toNat (BitVec.ofInt (8:Nat) (Int.fdiv v 8)&&&BitVec.ofInt (8:Nat) 7)):Int))),.int .i8 (IntKind.wrap IntKind.i8 (IntKind.wrap IntKind.u8 (↑(BitVec.toNat (BitVec.ofInt (8:Nat) v&&&BitVec.ofInt (8:Nat) 7)):Int))),.int .i64 0,.bool false,.int .i64 1,.int .i64 0]) ([tF]++List.replicate 3 (.get (.int .u8 v::bD t) 0 (.int .u8 v) rfl)++ [tC (de 3 true (eq_of_beq (@Fy v h3)))]) (by kernel_rfl)).to (by simp only [wk,aw,D.int.injEq,D.bool.injEq,true_and,and_true,wL,FZ v0 v1,and_self];first|done|omega)
theorem wB (v:Int) (v0:0≤v) (v1:v≤255) (a b c d:Int) (t:List Int) (a0:0≤a) (a1:a≤255) (b0:0≤b) (b1:b≤255) (c0:0≤c) (c1:c≤255) (d0:0≤d) (d1:d≤255) (h2:v / 64=2) (hr:¬v%8=4):aE Tryz.prog 160 ([.aj .no 1 (.int .u8 v:: .int .u8 a:: .int .u8 b:: .int .u8 c:: .int .u8 d::bD t)]) (.aA [.int .i8 (v / 8%8),.int .i8 (v%8),.int .i64 (eu a b c d),.bool true,.int .i64 5,.int .i64 0]):=by
 have c0:= @oY a b c d a0 a1 b0 b1 c0 c1 d0 d1
 generalize g2:eu a b c d=r1 at c0
 exact (sO (d:= .aA [.int .i8 (IntKind.wrap IntKind.i8 (IntKind.wrap IntKind.u8 (↑(BitVec.toNat (BitVec.ofInt (8:Nat) (Int.fdiv v (8:Int))&&&BitVec.ofInt (8:Nat) (7:Int))):Int))),.int .i8 (IntKind.wrap IntKind.i8 (IntKind.wrap IntKind.u8 (↑(BitVec.toNat (BitVec.ofInt (8:Nat) v&&&BitVec.ofInt (8:Nat) (7:Int))):Int))),.int .i64 r1,.bool true,.int .i64 5,.int .i64 0]) ([tF]++List.replicate 3 (.get (.int .u8 v:: .int .u8 a:: .int .u8 b:: .int .u8 c:: .int .u8 d::bD t) 0 (.int .u8 v) rfl)++ [tC (@oH (v) h2),tC (de 2 true (eq_of_beq (@oI (v) h2))),tC (@CV (v) hr)]++List.replicate 3 (tC (eT (bR 5 (by ((try simp only [List.length_cons,List.length_nil,aN,dK] at*);omega):(decide ((↑(List.length (.int .u8 v:: .int .u8 a:: .int .u8 b:: .int .u8 c:: .int .u8 d::bD t)):Int)<(5:Int)))=false))))++ [tF,tF,tF,tF,tC (eT (bR 5 (by ((try simp only [List.length_cons,List.length_nil,aN,dK] at*);omega):(decide ((↑(List.length (.int .u8 v:: .int .u8 a:: .int .u8 b:: .int .u8 c:: .int .u8 d::bD t)):Int)<(5:Int)))=false))),tT,tC (bR 5 (by ((try simp only [List.length_cons,List.length_nil,aN,dK] at*);omega):(decide ((↑(List.length (.int .u8 v:: .int .u8 a:: .int .u8 b:: .int .u8 c:: .int .u8 d::bD t)):Int)<(5:Int)))=false)),tT,.cU (decide ((0:Int)≤(1:Int)∧(1:Int)≤IntKind.i64.wrap ((1:Int)+(4:Int))∧IntKind.i64.wrap ((1:Int)+(4:Int))≤(↑(List.length (.int .u8 v:: .int .u8 a:: .int .u8 b:: .int .u8 c:: .int .u8 d::bD t)):Int))) true (by ((try simp only [List.length_cons,List.length_nil,aN,dK] at*);omega)),.ret _ _ _ c0]) (by kernel_rfl)).to (by simp only [wk,aw,D.int.injEq,D.bool.injEq,true_and,and_true,wL,FZ v0 v1,and_self];first|done|omega)
theorem wA (v:Int) (v0:0≤v) (v1:v≤255) (a b c d:Int) (t:List Int) (a0:0≤a) (a1:a≤255) (b0:0≤b) (b1:b≤255) (c0:0≤c) (c1:c≤255) (d0:0≤d) (d1:d≤255) (h2:v / 64=2) (hr:v%8=4):aE Tryz.prog 160 ([.aj .no 1 (.int .u8 v:: .int .u8 36:: .int .u8 a:: .int .u8 b:: .int .u8 c:: .int .u8 d::bD t)]) (.aA [.int .i8 (v / 8%8),.int .i8 (v%8),.int .i64 (eu a b c d),.bool true,.int .i64 6,.int .i64 0]):=by
 have c0:= @oY a b c d a0 a1 b0 b1 c0 c1 d0 d1
 generalize g2:eu a b c d=r1 at c0
 exact (sO (d:= .aA [.int .i8 (IntKind.wrap IntKind.i8 (IntKind.wrap IntKind.u8 (↑(BitVec.toNat (BitVec.ofInt (8:Nat) (Int.fdiv v (8:Int))&&&BitVec.ofInt (8:Nat) (7:Int))):Int))),.int .i8 (IntKind.wrap IntKind.i8 (IntKind.wrap IntKind.u8 (↑(BitVec.toNat (BitVec.ofInt (8:Nat) v&&&BitVec.ofInt (8:Nat) (7:Int))):Int))),.int .i64 r1,.bool true,.int .i64 6,.int .i64 0]) ([tF]++List.replicate 3 (.get (.int .u8 v:: .int .u8 36:: .int .u8 a:: .int .u8 b:: .int .u8 c:: .int .u8 d::bD t) 0 (.int .u8 v) rfl)++ [tC (@oH (v) h2),tC (de 2 true (eq_of_beq (@oI (v) h2))),tC (de 4 true (eq_of_beq (@wM (v) hr)))]++List.replicate 3 (tC (eT (bR 6 (by ((try simp only [List.length_cons,List.length_nil,aN,dK] at*);omega):(decide ((↑(List.length (.int .u8 v:: .int .u8 36:: .int .u8 a:: .int .u8 b:: .int .u8 c:: .int .u8 d::bD t)):Int)<(6:Int)))=false))))++ [tT,tT,.get (.int .u8 v:: .int .u8 36:: .int .u8 a:: .int .u8 b:: .int .u8 c:: .int .u8 d::bD t) 1 (.int .u8 36) rfl,tT,tT,tC (eT (bR 6 (by ((try simp only [List.length_cons,List.length_nil,aN,dK] at*);omega):(decide ((↑(List.length (.int .u8 v:: .int .u8 36:: .int .u8 a:: .int .u8 b:: .int .u8 c:: .int .u8 d::bD t)):Int)<(6:Int)))=false))),tF,tC (bR 6 (by ((try simp only [List.length_cons,List.length_nil,aN,dK] at*);omega):(decide ((↑(List.length (.int .u8 v:: .int .u8 36:: .int .u8 a:: .int .u8 b:: .int .u8 c:: .int .u8 d::bD t)):Int)<(6:Int)))=false)),tT,.cU (decide ((0:Int)≤(2:Int)∧(2:Int)≤IntKind.i64.wrap ((2:Int)+(4:Int))∧IntKind.i64.wrap ((2:Int)+(4:Int))≤(↑(List.length (.int .u8 v:: .int .u8 36:: .int .u8 a:: .int .u8 b:: .int .u8 c:: .int .u8 d::bD t)):Int))) true (by ((try simp only [List.length_cons,List.length_nil,aN,dK] at*);omega)),.ret _ _ _ c0]) (by kernel_rfl)).to (by simp only [wk,aw,D.int.injEq,D.bool.injEq,true_and,and_true,wL,FZ v0 v1,and_self];first|done|omega)
theorem Ap (v:Int) (v0:0≤v) (v1:v≤255) (t:List Int) (hl:v / 64<2):aE Tryz.prog 160 ([.aj .no 1 (.int .u8 v::bD t)]) (.aA [.int .i8 0,.int .i8 0,.int .i64 0,.bool false,.int .i64 0,.int .i64 30]):=by
 exact (sO (d:= .aA [.int .i8 0,.int .i8 0,.int .i64 0,.bool false,.int .i64 0,.int .i64 30]) ([tF]++List.replicate 3 (.get (.int .u8 v::bD t) 0 (.int .u8 v) rfl)++ [tC (@DM v hl),tC (@Fz v hl)]) (by kernel_rfl)).to (by simp [wk,aw])
theorem An (v:Int) (v0:0≤v) (v1:v≤255) (t:List Int) (h2:v / 64=2) (hr:¬v%8=4) (hs:t.length<4):aE Tryz.prog 160 ([.aj .no 1 (.int .u8 v::bD t)]) (.aA [.int .i8 0,.int .i8 0,.int .i64 0,.bool false,.int .i64 0,.int .i64 30]):=by
 exact (sO (d:= .aA [.int .i8 0,.int .i8 0,.int .i64 0,.bool false,.int .i64 0,.int .i64 30]) ([tF]++List.replicate 3 (.get (.int .u8 v::bD t) 0 (.int .u8 v) rfl)++ [tC (@oH v h2),tC (de 2 true (eq_of_beq (@oI v h2))),tC (@CV v hr)]++List.replicate 4 (tC (eT (bR 5 (by ((try simp only [List.length_cons,List.length_nil,aN,dK] at*);omega):(decide ((↑(List.length (.int .u8 v::bD t)):Int)<5))=true))))++ [tC (bR 5 (by ((try simp only [List.length_cons,List.length_nil,aN,dK] at*);omega):(decide ((↑(List.length (.int .u8 v::bD t)):Int)<5))=true)),tF]) (by kernel_rfl)).to (by simp [wk,aw])
theorem qK (v:Int) (v0:0≤v) (v1:v≤255) (t:List Int) (h2:v / 64=2) (hr:v%8=4) (hs:t.length<5):aE Tryz.prog 160 ([.aj .no 1 (.int .u8 v::bD t)]) (.aA [.int .i8 0,.int .i8 0,.int .i64 0,.bool false,.int .i64 0,.int .i64 30]):=by
 exact (sO (d:= .aA [.int .i8 0,.int .i8 0,.int .i64 0,.bool false,.int .i64 0,.int .i64 30]) ([tF]++List.replicate 3 (.get (.int .u8 v::bD t) 0 (.int .u8 v) rfl)++ [tC (@oH v h2),tC (de 2 true (eq_of_beq (@oI v h2))),tC (de 4 true (eq_of_beq (@wM v hr)))]++List.replicate 4 (tC (eT (bR 6 (by ((try simp only [List.length_cons,List.length_nil,aN,dK] at*);omega):(decide ((↑(List.length (.int .u8 v::bD t)):Int)<6))=true))))++ [tC (bR 6 (by ((try simp only [List.length_cons,List.length_nil,aN,dK] at*);omega):(decide ((↑(List.length (.int .u8 v::bD t)):Int)<6))=true)),tF]) (by kernel_rfl)).to (by simp [wk,aw])
theorem Am (v:Int) (v0:0≤v) (v1:v≤255) (s:Int) (t:List Int) (h2:v / 64=2) (hr:v%8=4) (hs:¬s=36):aE Tryz.prog 160 ([.aj .no 1 (.int .u8 v:: .int .u8 s::bD t)]) (.aA [.int .i8 0,.int .i8 0,.int .i64 0,.bool false,.int .i64 0,.int .i64 30]):=by
 let E1:EL:=([tF]++List.replicate 3 (.get (.int .u8 v:: .int .u8 s::bD t) 0 (.int .u8 v) rfl)++ [tC (@oH v h2),tC (de 2 true (eq_of_beq (@oI v h2))),tC (de 4 true (eq_of_beq (@wM v hr)))])
 rcases dT (decide ((↑(List.length (.int .u8 v:: .int .u8 s::bD t)):Int)<6)) with h0|h0
 ·exact (sO (d:= .aA [.int .i8 0,.int .i8 0,.int .i64 0,.bool false,.int .i64 0,.int .i64 30]) (E1++List.replicate 4 (tC (eT (bR 6 h0)))++ [tC (bR 6 h0),tF]) (by kernel_rfl)).to (by clear E1;simp [wk,aw])
 exact (sO (d:= .aA [.int .i8 0,.int .i8 0,.int .i64 0,.bool false,.int .i64 0,.int .i64 30]) (E1++List.replicate 3 (tC (eT (bR 6 h0)))++ [tT,tT,.get (.int .u8 v:: .int .u8 s::bD t) 1 (.int .u8 s) rfl,tT,tT,tC (eT (bR 6 h0)),tF,tC (bR 6 h0),tC (by ((try simp only [List.length_cons,List.length_nil,aN,dK] at*);omega):(s==36)=false)]) (by kernel_rfl)).to (by clear E1;simp [wk,aw])
theorem mD (t:List Int):t.length<4∨∃a b c d r,t=a::b::c::d::r:=by
 match t with
 | []=>exact .inl (by simp)
 | [_]=>exact .inl (by simp)
 | [_,_]=>exact .inl (by simp)
 | [_,_,_]=>exact .inl (by simp)
 |a::b::c::d::r=>exact .inr ⟨a,b,c,d,r,rfl⟩
theorem j4 (v:List Int) (hv:gQ v):aE Tryz.prog 160 [.aj .no 1 (bD v)] (.aA [.int .i8 (hY v),.int .i8 (hZ v),.int .i64 (jm v),.bool (decide (2≤fB v)),.int .i64 (fB v:Int),.int .i64 (hJ v)]):=by
 match v,hv with
 | [],_=>exact gO.cast rfl rfl
 |v::t,hv=>
  obtain ⟨⟨v0,v1⟩,ht⟩:=dW.1 hv
  have e:bD (v::t)= .int .u8 v::bD t:=rfl
  by_cases h3:v / 64=3
  ·have hn:fB (v::t)=1:=by simp [fB,h3]
   refine (Ao v v0 v1 t h3).cast rfl ?_
   simp [hY,hZ,jm,hJ,hn,hd]
  ·by_cases h2:v / 64=2
   ·by_cases hr:v%8=4
    ·match t,ht with
     | [],ht=>
      have hn:fB [v]=0:=by simp [fB,h2,hr]
      refine (qK v v0 v1 [] h2 hr (by simp)).cast rfl ?_
      simp [hY,hZ,jm,hJ,hn]
     |s::t,ht=>
      by_cases hs:s=36
      ·subst hs
       rcases mD t with hl|⟨a,b,c,d,r,rfl⟩
       ·have hn:fB (v::36::t)=0:=by simp [fB,h2,hr,hd];omega
        refine (qK v v0 v1 (36::t) h2 hr (by simp;omega)).cast rfl ?_
        simp [hY,hZ,jm,hJ,hn]
       ·have hn:fB (v::36::a::b::c::d::r)=6:=by simp [fB,h2,hr,hd]
        simp only [dW] at ht
        obtain ⟨-,⟨a0,a1⟩,⟨b0,b1⟩,⟨c0,c1⟩,⟨d0,d1⟩,-⟩:=ht
        refine (wA v v0 v1 a b c d r a0 a1 b0 b1 c0 c1 d0 d1 h2 hr).cast rfl ?_
        simp [hY,hZ,jm,hJ,hn,hd,vQ]
      ·have hn:fB (v::s::t)=0:=by simp [fB,h2,hr,hd,hs]
       refine (Am v v0 v1 s t h2 hr hs).cast rfl ?_
       simp [hY,hZ,jm,hJ,hn]
    ·rcases mD t with hl|⟨a,b,c,d,r,rfl⟩
     ·have hn:fB (v::t)=0:=by simp [fB,h2,hr];omega
      refine (An v v0 v1 t h2 hr hl).cast rfl ?_
      simp [hY,hZ,jm,hJ,hn]
     ·have hn:fB (v::a::b::c::d::r)=5:=by simp [fB,h2,hr]
      simp only [dW] at ht
      obtain ⟨⟨a0,a1⟩,⟨b0,b1⟩,⟨c0,c1⟩,⟨d0,d1⟩,-⟩:=ht
      refine (wB v v0 v1 a b c d r a0 a1 b0 b1 c0 c1 d0 d1 h2 hr).cast rfl ?_
      simp [hY,hZ,jm,hJ,hn,hd,vQ]
   ·have hn:fB (v::t)=0:=by simp [fB,h2,h3]
    refine (Ap v v0 v1 t (by omega)).cast rfl ?_
    simp [hY,hZ,jm,hJ,hn]
theorem x7 (b:List Int) (hb:gQ b) (i:Nat) (hi:i=0∨i=1∨i=5∨i=6):aE Tryz.prog 161 [.aj .no 1 (bD b),.int .i64 (i:Int)] (.int .i64 (fM b i)):=by
 by_cases hs:b.length<i+4
 ·refine (BI b i (by omega) (by omega) (by rw [aN];omega)).cast rfl ?_
  simp [fM,hs]
 ·have hq:∀ {x:D},fM b i=vQ (b.drop i):=fun {_} =>by simp [fM,hs]
  rw [hq (x:= .undef)]
  rcases hi with rfl|rfl|rfl|rfl
  ·match b,hb,hs with
   |a::b::c::d::t,hb,_=>
    simp only [dW] at hb
    obtain ⟨⟨a0,a1⟩,⟨b0,b1⟩,⟨c0,c1⟩,⟨d0,d1⟩,-⟩:=hb
    exact (BM a b c d t a0 a1 b0 b1 c0 c1 d0 d1).cast rfl rfl
   | [],_,hs| [_],_,hs| [_,_],_,hs| [_,_,_],_,hs=>simp at hs
  ·match b,hb,hs with
   |y::a::b::c::d::t,hb,_=>
    simp only [dW] at hb
    obtain ⟨-,⟨a0,a1⟩,⟨b0,b1⟩,⟨c0,c1⟩,⟨d0,d1⟩,-⟩:=hb
    exact (BL y a b c d t a0 a1 b0 b1 c0 c1 d0 d1).cast rfl rfl
   | [],_,hs| [_],_,hs| [_,_],_,hs| [_,_,_],_,hs| [_,_,_,_],_,hs=>simp at hs
  ·match b,hb,hs with
   |y0::y1::y2::y3::y4::a::b::c::d::t,hb,_=>
    simp only [dW] at hb
    obtain ⟨-,-,-,-,-,⟨a0,a1⟩,⟨b0,b1⟩,⟨c0,c1⟩,⟨d0,d1⟩,-⟩:=hb
    exact (BK y0 y1 y2 y3 y4 a b c d t a0 a1 b0 b1 c0 c1 d0 d1).cast rfl rfl
   | [],_,hs| [_],_,hs| [_,_],_,hs| [_,_,_],_,hs| [_,_,_,_],_,hs| [_,_,_,_,_],_,hs| [_,_,_,_,_,_],_,hs| [_,_,_,_,_,_,_],_,hs| [_,_,_,_,_,_,_,_],_,hs=>simp at hs
  ·match b,hb,hs with
   |y0::y1::y2::y3::y4::y5::a::b::c::d::t,hb,_=>
    simp only [dW] at hb
    obtain ⟨-,-,-,-,-,-,⟨a0,a1⟩,⟨b0,b1⟩,⟨c0,c1⟩,⟨d0,d1⟩,-⟩:=hb
    exact (BJ y0 y1 y2 y3 y4 y5 a b c d t a0 a1 b0 b1 c0 c1 d0 d1).cast rfl rfl
   | [],_,hs| [_],_,hs| [_,_],_,hs| [_,_,_],_,hs| [_,_,_,_],_,hs| [_,_,_,_,_],_,hs| [_,_,_,_,_,_],_,hs| [_,_,_,_,_,_,_],_,hs| [_,_,_,_,_,_,_,_],_,hs| [_,_,_,_,_,_,_,_,_],_,hs=>simp at hs
theorem Aq (v:List Int):fB v=0∨fB v=1∨fB v=5∨fB v=6:=by
 unfold fB
 split
 ·exact .inl rfl
 ·split
  ·exact .inr (.inl rfl)
  ·split
   ·split<;>split<;>simp
   ·exact .inl rfl
theorem dF (v:List Int) (hv:gQ v):aE Tryz.prog 161 [.aj .no 1 (bD v),.int .i64 (fB v:Int)] (.int .i64 (fM v (fB v))):=x7 v hv _ (Aq v)
theorem a9 (v:List Int) (hv:gQ v):aE Tryz.prog 161 [.aj .no 1 (bD v),.int .i64 0] (.int .i64 (fM v 0)):=x7 v hv 0 (.inl rfl)
theorem dG (v:List Int):aE Tryz.prog 158 [.aj .no 1 (bD v),.int .i64 (fB v:Int)] (.int .u8 (fh v (fB v))):=(yf v _ (by omega)).cast rfl (by simp)
theorem ba (v:List Int):aE Tryz.prog 158 [.aj .no 1 (bD v),.int .i64 0] (.int .u8 (fh v 0)):=yf v 0 (by omega)
theorem sR:type_of%(And.intro @decide_eq_true_eq (And.intro @decide_eq_false_iff_not (And.intro @D.int.injEq (And.intro @D.bool.injEq (And.intro @true_and @and_true))))):=(And.intro @decide_eq_true_eq (And.intro @decide_eq_false_iff_not (And.intro @D.int.injEq (And.intro @D.bool.injEq (And.intro @true_and @and_true)))))
theorem bC (x:Int) (l:List D):aE Tryz.prog 158 ([.aj .no 1 (.int .u8 x::l),.int .i64 0]) (.int .u8 x):=by
 exact (Eg (d:= .int .u8 x) [tF,tT,.get (.int .u8 x::l) 0 (.int .u8 x) rfl] (by kernel_rfl)).to (by simp [wk])
theorem du:aE Tryz.prog 158 ([.aj .no 1 [],.int .i64 0]) (.int .u8 0):=by
 exact (Eg (d:= .int .u8 0) [tT] (by kernel_rfl)).to (by simp [wk])
theorem zN:aE Tryz.prog 142 ([.aj .no 1 ([])]) (.aA [cO (lC 32 0),.bool false]):=by
 have c0:= @du
 have c1:= @du
 have c2:= @kq 0 (by decide) (by decide) (rfl:false=false)
 exact (fq (d:= .aA [.agg [.int .i8 32,.bool false,.int .u8 0,.int .i8 0,.int .i8 0,.int .i64 0,.int .i64 0,.int .i64 0,.int .i64 0,.int .i64 0,.int .i8 0],.bool false]) [.ret _ _ _ c0,tF,.ret _ _ _ c1,.ret _ _ _ c2,tF,tT] (by kernel_rfl)).to (by first|(simp [wk,aw,cO,lC, *];done)|(simp only [decide_eq_true_eq,decide_eq_false_iff_not] at*;simp [wk,aw,cO,lC, *]))
theorem zP (d:Int) (v:List Int) (hv:gQ v):aE Tryz.prog 142 ([.aj .no 1 (.int .u8 15:: .int .u8 d::bD v)]) (.aA [cO (aU 32 0 0 true d v),.bool true]):=by
 have c0:= @bC 15 (.int .u8 d::bD v)
 have c1:= @bC 15 (.int .u8 d::bD v)
 have c2:= @kq 15 (by first|rfl|decide) (by first|rfl|decide) (rfl:false=false)
 have c3:= @j4 v hv
 let E1:EL:= [.ret _ _ _ c0,tF,.ret _ _ _ c1,.ret _ _ _ c2,tF,tF,.get (.int .u8 15:: .int .u8 d::bD v) 0 (.int .u8 15) rfl,.cU (decide ((0:Int)≤(1:Int)∧(1:Int)≤(↑(List.length (.int .u8 15:: .int .u8 d::bD v)):Int))) true (by simp [aN]<;>omega),tT,tT,tT,tT,tC (a7 0 (by simp [aN]<;>omega:(decide ((↑(List.length (.int .u8 d::bD v)):Int)<(1:Int)))=false)),.get (.int .u8 d::bD v) 0 (.int .u8 d) rfl,.cU (decide ((0:Int)≤(1:Int)∧(1:Int)≤(↑(List.length (List.drop (Int.toNat (1:Int)) (.int .u8 15:: .int .u8 d::bD v))):Int))) true (by simp [aN]<;>omega),.ret _ _ _ c3]
 by_cases h4:hJ v=0
 ·have c5:= @dF v hv
  have c6:= @dG v
  have c7:= @a9 v hv
  have c8:= @ba v
  exact (fq (d:= .aA [.agg [.int .i8 32,.bool true,.int .u8 d,.int .i8 (IntKind.wrap IntKind.i8 (↑(BitVec.toNat (BitVec.ofInt (8:Nat) (hY v)|||BitVec.ofInt (8:Nat) (0:Int))):Int)),.int .i8 (IntKind.wrap IntKind.i8 (↑(BitVec.toNat (BitVec.ofInt (8:Nat) (hZ v)|||BitVec.ofInt (8:Nat) (0:Int))):Int)),.int .i64 (jm v),.int .i64 (fM v (fB v)),.int .i64 (IntKind.i64.wrap (fh v (fB v))),.int .i64 (fM v (0:Nat)),.int .i64 (IntKind.i64.wrap (IntKind.wrap IntKind.i8 (fh v (0:Nat)))),.int .i8 0],.bool true]) (E1++ [tC (nt (de 0 true h4)),.ret _ _ _ c5,.ret _ _ _ c6,.ret _ _ _ c7,.ret _ _ _ c8]) (by kernel_rfl)).to (by clear E1;(try simp only [sR,wk,aw,cO,aU] at*);(try rw [cZ ‹¬hJ v=0›]);(try simp only [cn hv,cY,fU hv (Or.inl rfl),fV hv (Or.inl rfl),ee hv,ef hv]);simp [*])
 have c9:= @a9 v hv
 have c10:= @ba v
 have c11:= @a9 v hv
 have c12:= @ba v
 exact (fq (d:= .aA [.agg [.int .i8 32,.bool true,.int .u8 d,.int .i8 (IntKind.wrap IntKind.i8 (↑(BitVec.toNat (BitVec.ofInt (8:Nat) (hY v)|||BitVec.ofInt (8:Nat) (0:Int))):Int)),.int .i8 (IntKind.wrap IntKind.i8 (↑(BitVec.toNat (BitVec.ofInt (8:Nat) (hZ v)|||BitVec.ofInt (8:Nat) (0:Int))):Int)),.int .i64 (jm v),.int .i64 (fM v (0:Nat)),.int .i64 (IntKind.i64.wrap (fh v (0:Nat))),.int .i64 (fM v (0:Nat)),.int .i64 (IntKind.i64.wrap (IntKind.wrap IntKind.i8 (fh v (0:Nat)))),.int .i8 0],.bool true]) (E1++ [tC (nt (av h4)),.ret _ _ _ c9,.ret _ _ _ c10,.ret _ _ _ c11,.ret _ _ _ c12]) (by kernel_rfl)).to (by clear E1;(try simp only [sR,wk,aw,cO,aU] at*);(try rw [cZ ‹¬hJ v=0›]);(try simp only [cn hv,cY,fU hv (Or.inl rfl),fV hv (Or.inl rfl),ee hv,ef hv]);simp [*])
theorem zQ:aE Tryz.prog 142 ([.aj .no 1 (.int .u8 15:: [])]) (.aA [cO (aU 32 0 0 false 15 []),.bool true]):=by
 have c0:= @bC 15 ([])
 have c1:= @bC 15 ([])
 have c2:= @kq 15 (by decide) (by decide) (rfl:false=false)
 have c3:= @gO
 have c4:= @du
 have c5:= @du
 exact (fq (d:= .aA [.agg [.int .i8 32,.bool false,.int .u8 15,.int .i8 0,.int .i8 0,.int .i64 0,.int .i64 0,.int .i64 0,.int .i64 0,.int .i64 0,.int .i8 0],.bool true]) [.ret _ _ _ c0,tF,.ret _ _ _ c1,.ret _ _ _ c2,tF,tF,.get ([.int .u8 15]) 0 (.int .u8 15) rfl,tT,tT,tT,tT,tT,tF,.ret _ _ _ c3,tT,.inl,tT,.ret _ _ _ c4,.inl,tT,.ret _ _ _ c5] (by kernel_rfl)).to (by (try simp only [sR,wk,aw,cO,aU] at*);(try rw [cZ ‹¬hJ []=0›]);(try simp only [cn fW,cY,fU fW (Or.inl rfl),fV fW (Or.inl rfl),ee fW,ef fW]);simp [*,hY,hZ,jm,fB,fM,fh,dw])
theorem zO (c:Int) (k0:0≤c) (k1:c≤255) (hq:iL c=false) (h2:¬c=102) (hc:¬c=15) (v:List Int) (hv:gQ v):aE Tryz.prog 142 ([.aj .no 1 (.int .u8 c::bD v)]) (.aA [cO (aU 32 0 0 false c v),.bool true]):=by
 have c0:= @bC c (bD v)
 have c1:= @bC c (bD v)
 have c2:= @kq c k0 k1 hq
 have c3:= @j4 v hv
 let E1:EL:=([.ret _ _ _ c0,tC (by simp [aN]<;>omega:(c==(102:Int))=false),.ret _ _ _ c1,.ret _ _ _ c2,tF,tF,.get (.int .u8 c::bD v) 0 (.int .u8 c) rfl,.cU (decide ((0:Int)≤(1:Int)∧(1:Int)≤(↑(List.length (.int .u8 c::bD v)):Int))) true (by simp [aN]<;>omega)]++List.replicate 3 (tC (eT (by simp [aN]<;>omega:(c==(15:Int))=false)))++ [tC (by simp [aN]<;>omega:(c==(15:Int))=false),tF,.ret _ _ _ c3])
 by_cases h4:hJ v=0
 ·have c5:= @dF v hv
  have c6:= @dG v
  have c7:= @a9 v hv
  have c8:= @ba v
  exact (fq (d:= .aA [.agg [.int .i8 32,.bool false,.int .u8 c,.int .i8 (IntKind.wrap IntKind.i8 (↑(BitVec.toNat (BitVec.ofInt (8:Nat) (hY v)|||BitVec.ofInt (8:Nat) (0:Int))):Int)),.int .i8 (IntKind.wrap IntKind.i8 (↑(BitVec.toNat (BitVec.ofInt (8:Nat) (hZ v)|||BitVec.ofInt (8:Nat) (0:Int))):Int)),.int .i64 (jm v),.int .i64 (fM v (fB v)),.int .i64 (IntKind.i64.wrap (fh v (fB v))),.int .i64 (fM v (0:Nat)),.int .i64 (IntKind.i64.wrap (IntKind.wrap IntKind.i8 (fh v (0:Nat)))),.int .i8 0],.bool true]) (E1++ [tC (nt (de 0 true h4)),.ret _ _ _ c5,.ret _ _ _ c6,.ret _ _ _ c7,.ret _ _ _ c8]) (by kernel_rfl)).to (by clear E1;(try simp only [sR,wk,aw,cO,aU] at*);(try rw [cZ ‹¬hJ v=0›]);(try simp only [cn hv,cY,fU hv (Or.inl rfl),fV hv (Or.inl rfl),ee hv,ef hv]);simp [*])
 have c9:= @a9 v hv
 have c10:= @ba v
 have c11:= @a9 v hv
 have c12:= @ba v
 exact (fq (d:= .aA [.agg [.int .i8 32,.bool false,.int .u8 c,.int .i8 (IntKind.wrap IntKind.i8 (↑(BitVec.toNat (BitVec.ofInt (8:Nat) (hY v)|||BitVec.ofInt (8:Nat) (0:Int))):Int)),.int .i8 (IntKind.wrap IntKind.i8 (↑(BitVec.toNat (BitVec.ofInt (8:Nat) (hZ v)|||BitVec.ofInt (8:Nat) (0:Int))):Int)),.int .i64 (jm v),.int .i64 (fM v (0:Nat)),.int .i64 (IntKind.i64.wrap (fh v (0:Nat))),.int .i64 (fM v (0:Nat)),.int .i64 (IntKind.i64.wrap (IntKind.wrap IntKind.i8 (fh v (0:Nat)))),.int .i8 0],.bool true]) (E1++ [tC (nt (av h4)),.ret _ _ _ c9,.ret _ _ _ c10,.ret _ _ _ c11,.ret _ _ _ c12]) (by kernel_rfl)).to (by clear E1;(try simp only [sR,wk,aw,cO,aU] at*);(try rw [cZ ‹¬hJ v=0›]);(try simp only [cn hv,cY,fU hv (Or.inl rfl),fV hv (Or.inl rfl),ee hv,ef hv]);simp [*])
theorem zR (h:Int) (g0:0≤h) (g1:h≤255) (hq:iL h=true) (hh:¬h=102):aE Tryz.prog 142 ([.aj .no 1 (.int .u8 h:: [])]) (.aA [cO (lC (if h / 8%2=1 then 64 else 32) (h%2*8)),.bool false]):=by
 have c0:= @bC h ([])
 have c1:= @bC h ([])
 have c2:= @kp h g0 g1 hq
 let E1:EL:= [.ret _ _ _ c0,tC (by simp [aN]<;>omega:(h==102)=false),.ret _ _ _ c1,.ret _ _ _ c2,tT,tT]
 rcases dT (decide (h / 8%2=1)) with h3|h3
 ·exact (fq (d:= .aA [.agg [.int .i8 64,.bool false,.int .u8 0,.int .i8 0,.int .i8 0,.int .i64 0,.int .i64 0,.int .i64 0,.int .i64 0,.int .i64 0,.int .i8 (h%2*8)],.bool false]) (E1++ [tC h3,tT]) (by kernel_rfl)).to (by clear E1;first|(simp [wk,aw,cO,lC, *];done)|(simp only [decide_eq_true_eq,decide_eq_false_iff_not] at*;simp [wk,aw,cO,lC, *]))
 exact (fq (d:= .aA [.agg [.int .i8 32,.bool false,.int .u8 0,.int .i8 0,.int .i8 0,.int .i64 0,.int .i64 0,.int .i64 0,.int .i64 0,.int .i64 0,.int .i8 (h%2*8)],.bool false]) (E1++ [tC h3,tT]) (by kernel_rfl)).to (by clear E1;first|(simp [wk,aw,cO,lC, *];done)|(simp only [decide_eq_true_eq,decide_eq_false_iff_not] at*;simp [wk,aw,cO,lC, *]))
theorem zT (h:Int) (g0:0≤h) (g1:h≤255) (hq:iL h=true) (hh:¬h=102) (d:Int) (v:List Int) (hv:gQ v):aE Tryz.prog 142 ([.aj .no 1 (.int .u8 h:: .int .u8 15:: .int .u8 d::bD v)]) (.aA [cO (aU (if h / 8%2=1 then 64 else 32) (h / 4%2*8) (h%2*8) true d v),.bool true]):=by
 have c0:= @bC h (.int .u8 15:: .int .u8 d::bD v)
 have c1:= @bC h (.int .u8 15:: .int .u8 d::bD v)
 have c2:= @kp h g0 g1 hq
 let E1:EL:= [.ret _ _ _ c0,tC (by simp [aN]<;>omega:(h==(102:Int))=false),.ret _ _ _ c1,.ret _ _ _ c2,tT,.cU (decide ((0:Int)≤(1:Int)∧(1:Int)≤(↑(List.length (.int .u8 h:: .int .u8 15:: .int .u8 d::bD v)):Int))) true (by simp [aN]<;>omega)]
 rcases dT (decide (h / (8:Int)%(2:Int)=(1:Int))) with h3|h3
 ·have c4:= @j4 v hv
  let E2:EL:=E1++ [tC h3,tF,.get (.int .u8 15:: .int .u8 d::bD v) 0 (.int .u8 15) rfl,.cU (decide ((0:Int)≤(1:Int)∧(1:Int)≤(↑(List.length (List.drop (Int.toNat (1:Int)) (.int .u8 h:: .int .u8 15:: .int .u8 d::bD v))):Int))) true (by simp [aN]<;>omega),tT,tT,tT,tT,tC (a7 0 (by simp [aN]<;>omega:(decide ((↑(List.length (.int .u8 d::bD v)):Int)<(1:Int)))=false)),.get (.int .u8 d::bD v) 0 (.int .u8 d) rfl,.cU (decide ((0:Int)≤(1:Int)∧(1:Int)≤(↑(List.length (List.drop (Int.toNat (1:Int)) (List.drop (Int.toNat (1:Int)) (.int .u8 h:: .int .u8 15:: .int .u8 d::bD v)))):Int))) true (by simp [aN]<;>omega),.ret _ _ _ c4]
  by_cases h5:hJ v=0
  ·have c6:= @dF v hv
   have c7:= @dG v
   have c8:= @a9 v hv
   have c9:= @ba v
   exact (fq (d:= .aA [.agg [.int .i8 64,.bool true,.int .u8 d,.int .i8 (IntKind.wrap IntKind.i8 (↑(BitVec.toNat (BitVec.ofInt (8:Nat) (hY v)|||BitVec.ofInt (8:Nat) (h / (4:Int)%(2:Int)*(8:Int)))):Int)),.int .i8 (IntKind.wrap IntKind.i8 (↑(BitVec.toNat (BitVec.ofInt (8:Nat) (hZ v)|||BitVec.ofInt (8:Nat) (h%(2:Int)*(8:Int)))):Int)),.int .i64 (jm v),.int .i64 (fM v (fB v)),.int .i64 (IntKind.i64.wrap (fh v (fB v))),.int .i64 (fM v (0:Nat)),.int .i64 (IntKind.i64.wrap (IntKind.wrap IntKind.i8 (fh v (0:Nat)))),.int .i8 (h%(2:Int)*(8:Int))],.bool true]) (E2++ [tC (nt (de 0 true h5)),.ret _ _ _ c6,.ret _ _ _ c7,.ret _ _ _ c8,.ret _ _ _ c9]) (by kernel_rfl)).to (by clear E1 E2;(try simp only [sR,wk,aw,cO,aU] at*);(try rw [cZ ‹¬hJ v=0›]);(try simp only [cn hv,cY,fU hv (Or.inl rfl),fV hv (Or.inl rfl),ee hv,ef hv]);simp [*])
  have c10:= @a9 v hv
  have c11:= @ba v
  have c12:= @a9 v hv
  have c13:= @ba v
  exact (fq (d:= .aA [.agg [.int .i8 64,.bool true,.int .u8 d,.int .i8 (IntKind.wrap IntKind.i8 (↑(BitVec.toNat (BitVec.ofInt (8:Nat) (hY v)|||BitVec.ofInt (8:Nat) (h / (4:Int)%(2:Int)*(8:Int)))):Int)),.int .i8 (IntKind.wrap IntKind.i8 (↑(BitVec.toNat (BitVec.ofInt (8:Nat) (hZ v)|||BitVec.ofInt (8:Nat) (h%(2:Int)*(8:Int)))):Int)),.int .i64 (jm v),.int .i64 (fM v (0:Nat)),.int .i64 (IntKind.i64.wrap (fh v (0:Nat))),.int .i64 (fM v (0:Nat)),.int .i64 (IntKind.i64.wrap (IntKind.wrap IntKind.i8 (fh v (0:Nat)))),.int .i8 (h%(2:Int)*(8:Int))],.bool true]) (E2++ [tC (nt (av h5)),.ret _ _ _ c10,.ret _ _ _ c11,.ret _ _ _ c12,.ret _ _ _ c13]) (by kernel_rfl)).to (by clear E1 E2;(try simp only [sR,wk,aw,cO,aU] at*);(try rw [cZ ‹¬hJ v=0›]);(try simp only [cn hv,cY,fU hv (Or.inl rfl),fV hv (Or.inl rfl),ee hv,ef hv]);simp [*])
 have c14:= @j4 v hv
 let E3:EL:=E1++ [tC h3,tF,.get (.int .u8 15:: .int .u8 d::bD v) 0 (.int .u8 15) rfl,.cU (decide ((0:Int)≤(1:Int)∧(1:Int)≤(↑(List.length (List.drop (Int.toNat (1:Int)) (.int .u8 h:: .int .u8 15:: .int .u8 d::bD v))):Int))) true (by simp [aN]<;>omega),tT,tT,tT,tT,tC (a7 0 (by simp [aN]<;>omega:(decide ((↑(List.length (.int .u8 d::bD v)):Int)<(1:Int)))=false)),.get (.int .u8 d::bD v) 0 (.int .u8 d) rfl,.cU (decide ((0:Int)≤(1:Int)∧(1:Int)≤(↑(List.length (List.drop (Int.toNat (1:Int)) (List.drop (Int.toNat (1:Int)) (.int .u8 h:: .int .u8 15:: .int .u8 d::bD v)))):Int))) true (by simp [aN]<;>omega),.ret _ _ _ c14]
 by_cases h15:hJ v=0
 ·have c16:= @dF v hv
  have c17:= @dG v
  have c18:= @a9 v hv
  have c19:= @ba v
  exact (fq (d:= .aA [.agg [.int .i8 32,.bool true,.int .u8 d,.int .i8 (IntKind.wrap IntKind.i8 (↑(BitVec.toNat (BitVec.ofInt (8:Nat) (hY v)|||BitVec.ofInt (8:Nat) (h / (4:Int)%(2:Int)*(8:Int)))):Int)),.int .i8 (IntKind.wrap IntKind.i8 (↑(BitVec.toNat (BitVec.ofInt (8:Nat) (hZ v)|||BitVec.ofInt (8:Nat) (h%(2:Int)*(8:Int)))):Int)),.int .i64 (jm v),.int .i64 (fM v (fB v)),.int .i64 (IntKind.i64.wrap (fh v (fB v))),.int .i64 (fM v (0:Nat)),.int .i64 (IntKind.i64.wrap (IntKind.wrap IntKind.i8 (fh v (0:Nat)))),.int .i8 (h%(2:Int)*(8:Int))],.bool true]) (E3++ [tC (nt (de 0 true h15)),.ret _ _ _ c16,.ret _ _ _ c17,.ret _ _ _ c18,.ret _ _ _ c19]) (by kernel_rfl)).to (by clear E1 E3;(try simp only [sR,wk,aw,cO,aU] at*);(try rw [cZ ‹¬hJ v=0›]);(try simp only [cn hv,cY,fU hv (Or.inl rfl),fV hv (Or.inl rfl),ee hv,ef hv]);simp [*])
 have c20:= @a9 v hv
 have c21:= @ba v
 have c22:= @a9 v hv
 have c23:= @ba v
 exact (fq (d:= .aA [.agg [.int .i8 32,.bool true,.int .u8 d,.int .i8 (IntKind.wrap IntKind.i8 (↑(BitVec.toNat (BitVec.ofInt (8:Nat) (hY v)|||BitVec.ofInt (8:Nat) (h / (4:Int)%(2:Int)*(8:Int)))):Int)),.int .i8 (IntKind.wrap IntKind.i8 (↑(BitVec.toNat (BitVec.ofInt (8:Nat) (hZ v)|||BitVec.ofInt (8:Nat) (h%(2:Int)*(8:Int)))):Int)),.int .i64 (jm v),.int .i64 (fM v (0:Nat)),.int .i64 (IntKind.i64.wrap (fh v (0:Nat))),.int .i64 (fM v (0:Nat)),.int .i64 (IntKind.i64.wrap (IntKind.wrap IntKind.i8 (fh v (0:Nat)))),.int .i8 (h%(2:Int)*(8:Int))],.bool true]) (E3++ [tC (nt (av h15)),.ret _ _ _ c20,.ret _ _ _ c21,.ret _ _ _ c22,.ret _ _ _ c23]) (by kernel_rfl)).to (by clear E1 E3;(try simp only [sR,wk,aw,cO,aU] at*);(try rw [cZ ‹¬hJ v=0›]);(try simp only [cn hv,cY,fU hv (Or.inl rfl),fV hv (Or.inl rfl),ee hv,ef hv]);simp [*])
theorem zU (h:Int) (g0:0≤h) (g1:h≤255) (hq:iL h=true) (hh:¬h=102):aE Tryz.prog 142 ([.aj .no 1 (.int .u8 h:: .int .u8 15:: [])]) (.aA [cO (aU (if h / 8%2=1 then 64 else 32) (h / 4%2*8) (h%2*8) false 15 []),.bool true]):=by
 have c0:= @bC h ([.int .u8 15])
 have c1:= @bC h ([.int .u8 15])
 have c2:= @kp h g0 g1 hq
 let E1:EL:= [.ret _ _ _ c0,tC (by simp [aN]<;>omega:(h==102)=false),.ret _ _ _ c1,.ret _ _ _ c2,tT,tT]
 rcases dT (decide (h / 8%2=1)) with h3|h3
 ·have c4:= @gO
  have c5:= @du
  have c6:= @du
  exact (fq (d:= .aA [.agg [.int .i8 64,.bool false,.int .u8 15,.int .i8 (IntKind.wrap IntKind.i8 (↑(BitVec.toNat (BitVec.ofInt (8:Nat) 0|||BitVec.ofInt (8:Nat) (h / 4%2*8))):Int)),.int .i8 (IntKind.wrap IntKind.i8 (↑(BitVec.toNat (BitVec.ofInt (8:Nat) 0|||BitVec.ofInt (8:Nat) (h%2*8))):Int)),.int .i64 0,.int .i64 0,.int .i64 0,.int .i64 0,.int .i64 0,.int .i8 (h%2*8)],.bool true]) (E1++ [tC h3,tF,.get ([.int .u8 15]) 0 (.int .u8 15) rfl,tT,tT,tT,tT,tT,tF,.ret _ _ _ c4,tT,.inl,tT,.ret _ _ _ c5,.inl,tT,.ret _ _ _ c6]) (by kernel_rfl)).to (by clear E1;(try simp only [sR,wk,aw,cO,aU] at*);(try rw [cZ ‹¬hJ []=0›]);(try simp only [cn fW,cY,fU fW (Or.inl rfl),fV fW (Or.inl rfl),ee fW,ef fW]);simp [*,hY,hZ,jm,fB,fM,fh,dw,ke];omega)
 have c7:= @gO
 have c8:= @du
 have c9:= @du
 exact (fq (d:= .aA [.agg [.int .i8 32,.bool false,.int .u8 15,.int .i8 (IntKind.wrap IntKind.i8 (↑(BitVec.toNat (BitVec.ofInt (8:Nat) 0|||BitVec.ofInt (8:Nat) (h / 4%2*8))):Int)),.int .i8 (IntKind.wrap IntKind.i8 (↑(BitVec.toNat (BitVec.ofInt (8:Nat) 0|||BitVec.ofInt (8:Nat) (h%2*8))):Int)),.int .i64 0,.int .i64 0,.int .i64 0,.int .i64 0,.int .i64 0,.int .i8 (h%2*8)],.bool true]) (E1++ [tC h3,tF,.get ([.int .u8 15]) 0 (.int .u8 15) rfl,tT,tT,tT,tT,tT,tF,.ret _ _ _ c7,tT,.inl,tT,.ret _ _ _ c8,.inl,tT,.ret _ _ _ c9]) (by kernel_rfl)).to (by clear E1;(try simp only [sR,wk,aw,cO,aU] at*);(try rw [cZ ‹¬hJ []=0›]);(try simp only [cn fW,cY,fU fW (Or.inl rfl),fV fW (Or.inl rfl),ee fW,ef fW]);simp [*,hY,hZ,jm,fB,fM,fh,dw,ke];omega)
theorem zS (h:Int) (g0:0≤h) (g1:h≤255) (hq:iL h=true) (hh:¬h=102) (c:Int) (hc:¬c=15) (v:List Int) (hv:gQ v):aE Tryz.prog 142 ([.aj .no 1 (.int .u8 h:: .int .u8 c::bD v)]) (.aA [cO (aU (if h / 8%2=1 then 64 else 32) (h / 4%2*8) (h%2*8) false c v),.bool true]):=by
 have c0:= @bC h (.int .u8 c::bD v)
 have c1:= @bC h (.int .u8 c::bD v)
 have c2:= @kp h g0 g1 hq
 let E1:EL:= [.ret _ _ _ c0,tC (by simp [aN]<;>omega:(h==(102:Int))=false),.ret _ _ _ c1,.ret _ _ _ c2,tT,.cU (decide ((0:Int)≤(1:Int)∧(1:Int)≤(↑(List.length (.int .u8 h:: .int .u8 c::bD v)):Int))) true (by simp [aN]<;>omega)]
 rcases dT (decide (h / (8:Int)%(2:Int)=(1:Int))) with h3|h3
 ·have c4:= @j4 v hv
  let E2:EL:=E1++ [tC h3,tF,.get (.int .u8 c::bD v) 0 (.int .u8 c) rfl,.cU (decide ((0:Int)≤(1:Int)∧(1:Int)≤(↑(List.length (List.drop (Int.toNat (1:Int)) (.int .u8 h:: .int .u8 c::bD v))):Int))) true (by simp [aN]<;>omega)]++List.replicate 3 (tC (eT (by simp [aN]<;>omega:(c==(15:Int))=false)))++ [tC (by simp [aN]<;>omega:(c==(15:Int))=false),tF,.ret _ _ _ c4]
  by_cases h5:hJ v=0
  ·have c6:= @dF v hv
   have c7:= @dG v
   have c8:= @a9 v hv
   have c9:= @ba v
   exact (fq (d:= .aA [.agg [.int .i8 64,.bool false,.int .u8 c,.int .i8 (IntKind.wrap IntKind.i8 (↑(BitVec.toNat (BitVec.ofInt (8:Nat) (hY v)|||BitVec.ofInt (8:Nat) (h / (4:Int)%(2:Int)*(8:Int)))):Int)),.int .i8 (IntKind.wrap IntKind.i8 (↑(BitVec.toNat (BitVec.ofInt (8:Nat) (hZ v)|||BitVec.ofInt (8:Nat) (h%(2:Int)*(8:Int)))):Int)),.int .i64 (jm v),.int .i64 (fM v (fB v)),.int .i64 (IntKind.i64.wrap (fh v (fB v))),.int .i64 (fM v (0:Nat)),.int .i64 (IntKind.i64.wrap (IntKind.wrap IntKind.i8 (fh v (0:Nat)))),.int .i8 (h%(2:Int)*(8:Int))],.bool true]) (E2++ [tC (nt (de 0 true h5)),.ret _ _ _ c6,.ret _ _ _ c7,.ret _ _ _ c8,.ret _ _ _ c9]) (by kernel_rfl)).to (by clear E1 E2;(try simp only [sR,wk,aw,cO,aU] at*);(try rw [cZ ‹¬hJ v=0›]);(try simp only [cn hv,cY,fU hv (Or.inl rfl),fV hv (Or.inl rfl),ee hv,ef hv]);simp [*])
  have c10:= @a9 v hv
  have c11:= @ba v
  have c12:= @a9 v hv
  have c13:= @ba v
  exact (fq (d:= .aA [.agg [.int .i8 64,.bool false,.int .u8 c,.int .i8 (IntKind.wrap IntKind.i8 (↑(BitVec.toNat (BitVec.ofInt (8:Nat) (hY v)|||BitVec.ofInt (8:Nat) (h / (4:Int)%(2:Int)*(8:Int)))):Int)),.int .i8 (IntKind.wrap IntKind.i8 (↑(BitVec.toNat (BitVec.ofInt (8:Nat) (hZ v)|||BitVec.ofInt (8:Nat) (h%(2:Int)*(8:Int)))):Int)),.int .i64 (jm v),.int .i64 (fM v (0:Nat)),.int .i64 (IntKind.i64.wrap (fh v (0:Nat))),.int .i64 (fM v (0:Nat)),.int .i64 (IntKind.i64.wrap (IntKind.wrap IntKind.i8 (fh v (0:Nat)))),.int .i8 (h%(2:Int)*(8:Int))],.bool true]) (E2++ [tC (nt (av h5)),.ret _ _ _ c10,.ret _ _ _ c11,.ret _ _ _ c12,.ret _ _ _ c13]) (by kernel_rfl)).to (by clear E1 E2;(try simp only [sR,wk,aw,cO,aU] at*);(try rw [cZ ‹¬hJ v=0›]);(try simp only [cn hv,cY,fU hv (Or.inl rfl),fV hv (Or.inl rfl),ee hv,ef hv]);simp [*])
 have c14:= @j4 v hv
 let E3:EL:=E1++ [tC h3,tF,.get (.int .u8 c::bD v) 0 (.int .u8 c) rfl,.cU (decide ((0:Int)≤(1:Int)∧(1:Int)≤(↑(List.length (List.drop (Int.toNat (1:Int)) (.int .u8 h:: .int .u8 c::bD v))):Int))) true (by simp [aN]<;>omega)]++List.replicate 3 (tC (eT (by simp [aN]<;>omega:(c==(15:Int))=false)))++ [tC (by simp [aN]<;>omega:(c==(15:Int))=false),tF,.ret _ _ _ c14]
 by_cases h15:hJ v=0
 ·have c16:= @dF v hv
  have c17:= @dG v
  have c18:= @a9 v hv
  have c19:= @ba v
  exact (fq (d:= .aA [.agg [.int .i8 32,.bool false,.int .u8 c,.int .i8 (IntKind.wrap IntKind.i8 (↑(BitVec.toNat (BitVec.ofInt (8:Nat) (hY v)|||BitVec.ofInt (8:Nat) (h / (4:Int)%(2:Int)*(8:Int)))):Int)),.int .i8 (IntKind.wrap IntKind.i8 (↑(BitVec.toNat (BitVec.ofInt (8:Nat) (hZ v)|||BitVec.ofInt (8:Nat) (h%(2:Int)*(8:Int)))):Int)),.int .i64 (jm v),.int .i64 (fM v (fB v)),.int .i64 (IntKind.i64.wrap (fh v (fB v))),.int .i64 (fM v (0:Nat)),.int .i64 (IntKind.i64.wrap (IntKind.wrap IntKind.i8 (fh v (0:Nat)))),.int .i8 (h%(2:Int)*(8:Int))],.bool true]) (E3++ [tC (nt (de 0 true h15)),.ret _ _ _ c16,.ret _ _ _ c17,.ret _ _ _ c18,.ret _ _ _ c19]) (by kernel_rfl)).to (by clear E1 E3;(try simp only [sR,wk,aw,cO,aU] at*);(try rw [cZ ‹¬hJ v=0›]);(try simp only [cn hv,cY,fU hv (Or.inl rfl),fV hv (Or.inl rfl),ee hv,ef hv]);simp [*])
 have c20:= @a9 v hv
 have c21:= @ba v
 have c22:= @a9 v hv
 have c23:= @ba v
 exact (fq (d:= .aA [.agg [.int .i8 32,.bool false,.int .u8 c,.int .i8 (IntKind.wrap IntKind.i8 (↑(BitVec.toNat (BitVec.ofInt (8:Nat) (hY v)|||BitVec.ofInt (8:Nat) (h / (4:Int)%(2:Int)*(8:Int)))):Int)),.int .i8 (IntKind.wrap IntKind.i8 (↑(BitVec.toNat (BitVec.ofInt (8:Nat) (hZ v)|||BitVec.ofInt (8:Nat) (h%(2:Int)*(8:Int)))):Int)),.int .i64 (jm v),.int .i64 (fM v (0:Nat)),.int .i64 (IntKind.i64.wrap (fh v (0:Nat))),.int .i64 (fM v (0:Nat)),.int .i64 (IntKind.i64.wrap (IntKind.wrap IntKind.i8 (fh v (0:Nat)))),.int .i8 (h%(2:Int)*(8:Int))],.bool true]) (E3++ [tC (nt (av h15)),.ret _ _ _ c20,.ret _ _ _ c21,.ret _ _ _ c22,.ret _ _ _ c23]) (by kernel_rfl)).to (by clear E1 E3;(try simp only [sR,wk,aw,cO,aU] at*);(try rw [cZ ‹¬hJ v=0›]);(try simp only [cn hv,cY,fU hv (Or.inl rfl),fV hv (Or.inl rfl),ee hv,ef hv]);simp [*])
theorem zV:aE Tryz.prog 142 ([.aj .no 1 (.int .u8 102:: [])]) (.aA [cO (lC 16 0),.bool false]):=by
 have c0:= @bC 102 ([])
 have c1:= @du
 have c2:= @kq 0 (by decide) (by decide) (rfl:false=false)
 exact (fq (d:= .aA [.agg [.int .i8 16,.bool false,.int .u8 0,.int .i8 0,.int .i8 0,.int .i64 0,.int .i64 0,.int .i64 0,.int .i64 0,.int .i64 0,.int .i8 0],.bool false]) [.ret _ _ _ c0,tT,tT,.ret _ _ _ c1,.ret _ _ _ c2,tF,tT] (by kernel_rfl)).to (by first|(simp [wk,aw,cO,lC, *];done)|(simp only [decide_eq_true_eq,decide_eq_false_iff_not] at*;simp [wk,aw,cO,lC, *]))
theorem zX (d:Int) (v:List Int) (hv:gQ v):aE Tryz.prog 142 ([.aj .no 1 (.int .u8 102:: .int .u8 15:: .int .u8 d::bD v)]) (.aA [cO (aU 16 0 0 true d v),.bool true]):=by
 have c0:= @bC 102 (.int .u8 15:: .int .u8 d::bD v)
 have c1:= @bC 15 (.int .u8 d::bD v)
 have c2:= @kq 15 (by first|rfl|decide) (by first|rfl|decide) (rfl:false=false)
 have c3:= @j4 v hv
 let E1:EL:= [.ret _ _ _ c0,tT,.cU (decide ((0:Int)≤(1:Int)∧(1:Int)≤(↑(List.length (.int .u8 102:: .int .u8 15:: .int .u8 d::bD v)):Int))) true (by simp [aN]<;>omega),.ret _ _ _ c1,.ret _ _ _ c2,tF,tF,.get (.int .u8 15:: .int .u8 d::bD v) 0 (.int .u8 15) rfl,.cU (decide ((0:Int)≤(1:Int)∧(1:Int)≤(↑(List.length (List.drop (Int.toNat (1:Int)) (.int .u8 102:: .int .u8 15:: .int .u8 d::bD v))):Int))) true (by simp [aN]<;>omega),tT,tT,tT,tT,tC (a7 0 (by simp [aN]<;>omega:(decide ((↑(List.length (.int .u8 d::bD v)):Int)<(1:Int)))=false)),.get (.int .u8 d::bD v) 0 (.int .u8 d) rfl,.cU (decide ((0:Int)≤(1:Int)∧(1:Int)≤(↑(List.length (List.drop (Int.toNat (1:Int)) (List.drop (Int.toNat (1:Int)) (.int .u8 102:: .int .u8 15:: .int .u8 d::bD v)))):Int))) true (by simp [aN]<;>omega),.ret _ _ _ c3]
 by_cases h4:hJ v=0
 ·have c5:= @dF v hv
  have c6:= @dG v
  have c7:= @a9 v hv
  have c8:= @ba v
  exact (fq (d:= .aA [.agg [.int .i8 16,.bool true,.int .u8 d,.int .i8 (IntKind.wrap IntKind.i8 (↑(BitVec.toNat (BitVec.ofInt (8:Nat) (hY v)|||BitVec.ofInt (8:Nat) (0:Int))):Int)),.int .i8 (IntKind.wrap IntKind.i8 (↑(BitVec.toNat (BitVec.ofInt (8:Nat) (hZ v)|||BitVec.ofInt (8:Nat) (0:Int))):Int)),.int .i64 (jm v),.int .i64 (fM v (fB v)),.int .i64 (IntKind.i64.wrap (fh v (fB v))),.int .i64 (fM v (0:Nat)),.int .i64 (IntKind.i64.wrap (IntKind.wrap IntKind.i8 (fh v (0:Nat)))),.int .i8 0],.bool true]) (E1++ [tC (nt (de 0 true h4)),.ret _ _ _ c5,.ret _ _ _ c6,.ret _ _ _ c7,.ret _ _ _ c8]) (by kernel_rfl)).to (by clear E1;(try simp only [sR,wk,aw,cO,aU] at*);(try rw [cZ ‹¬hJ v=0›]);(try simp only [cn hv,cY,fU hv (Or.inl rfl),fV hv (Or.inl rfl),ee hv,ef hv]);simp [*])
 have c9:= @a9 v hv
 have c10:= @ba v
 have c11:= @a9 v hv
 have c12:= @ba v
 exact (fq (d:= .aA [.agg [.int .i8 16,.bool true,.int .u8 d,.int .i8 (IntKind.wrap IntKind.i8 (↑(BitVec.toNat (BitVec.ofInt (8:Nat) (hY v)|||BitVec.ofInt (8:Nat) (0:Int))):Int)),.int .i8 (IntKind.wrap IntKind.i8 (↑(BitVec.toNat (BitVec.ofInt (8:Nat) (hZ v)|||BitVec.ofInt (8:Nat) (0:Int))):Int)),.int .i64 (jm v),.int .i64 (fM v (0:Nat)),.int .i64 (IntKind.i64.wrap (fh v (0:Nat))),.int .i64 (fM v (0:Nat)),.int .i64 (IntKind.i64.wrap (IntKind.wrap IntKind.i8 (fh v (0:Nat)))),.int .i8 0],.bool true]) (E1++ [tC (nt (av h4)),.ret _ _ _ c9,.ret _ _ _ c10,.ret _ _ _ c11,.ret _ _ _ c12]) (by kernel_rfl)).to (by clear E1;(try simp only [sR,wk,aw,cO,aU] at*);(try rw [cZ ‹¬hJ v=0›]);(try simp only [cn hv,cY,fU hv (Or.inl rfl),fV hv (Or.inl rfl),ee hv,ef hv]);simp [*])
theorem zY:aE Tryz.prog 142 ([.aj .no 1 (.int .u8 102:: .int .u8 15:: [])]) (.aA [cO (aU 16 0 0 false 15 []),.bool true]):=by
 have c0:= @bC 102 ([.int .u8 15])
 have c1:= @bC 15 ([])
 have c2:= @kq 15 (by decide) (by decide) (rfl:false=false)
 have c3:= @gO
 have c4:= @du
 have c5:= @du
 exact (fq (d:= .aA [.agg [.int .i8 16,.bool false,.int .u8 15,.int .i8 0,.int .i8 0,.int .i64 0,.int .i64 0,.int .i64 0,.int .i64 0,.int .i64 0,.int .i8 0],.bool true]) [.ret _ _ _ c0,tT,tT,.ret _ _ _ c1,.ret _ _ _ c2,tF,tF,.get ([.int .u8 15]) 0 (.int .u8 15) rfl,tT,tT,tT,tT,tT,tF,.ret _ _ _ c3,tT,.inl,tT,.ret _ _ _ c4,.inl,tT,.ret _ _ _ c5] (by kernel_rfl)).to (by (try simp only [sR,wk,aw,cO,aU] at*);(try rw [cZ ‹¬hJ []=0›]);(try simp only [cn fW,cY,fU fW (Or.inl rfl),fV fW (Or.inl rfl),ee fW,ef fW]);simp [*,hY,hZ,jm,fB,fM,fh,dw])
theorem zW (c:Int) (k0:0≤c) (k1:c≤255) (hq:iL c=false) (hc:¬c=15) (v:List Int) (hv:gQ v):aE Tryz.prog 142 ([.aj .no 1 (.int .u8 102:: .int .u8 c::bD v)]) (.aA [cO (aU 16 0 0 false c v),.bool true]):=by
 have c0:= @bC 102 (.int .u8 c::bD v)
 have c1:= @bC c (bD v)
 have c2:= @kq c k0 k1 hq
 have c3:= @j4 v hv
 let E1:EL:=([.ret _ _ _ c0,tT,.cU (decide ((0:Int)≤(1:Int)∧(1:Int)≤(↑(List.length (.int .u8 102:: .int .u8 c::bD v)):Int))) true (by simp [aN]<;>omega),.ret _ _ _ c1,.ret _ _ _ c2,tF,tF,.get (.int .u8 c::bD v) 0 (.int .u8 c) rfl,.cU (decide ((0:Int)≤(1:Int)∧(1:Int)≤(↑(List.length (List.drop (Int.toNat (1:Int)) (.int .u8 102:: .int .u8 c::bD v))):Int))) true (by simp [aN]<;>omega)]++List.replicate 3 (tC (eT (by simp [aN]<;>omega:(c==(15:Int))=false)))++ [tC (by simp [aN]<;>omega:(c==(15:Int))=false),tF,.ret _ _ _ c3])
 by_cases h4:hJ v=0
 ·have c5:= @dF v hv
  have c6:= @dG v
  have c7:= @a9 v hv
  have c8:= @ba v
  exact (fq (d:= .aA [.agg [.int .i8 16,.bool false,.int .u8 c,.int .i8 (IntKind.wrap IntKind.i8 (↑(BitVec.toNat (BitVec.ofInt (8:Nat) (hY v)|||BitVec.ofInt (8:Nat) (0:Int))):Int)),.int .i8 (IntKind.wrap IntKind.i8 (↑(BitVec.toNat (BitVec.ofInt (8:Nat) (hZ v)|||BitVec.ofInt (8:Nat) (0:Int))):Int)),.int .i64 (jm v),.int .i64 (fM v (fB v)),.int .i64 (IntKind.i64.wrap (fh v (fB v))),.int .i64 (fM v (0:Nat)),.int .i64 (IntKind.i64.wrap (IntKind.wrap IntKind.i8 (fh v (0:Nat)))),.int .i8 0],.bool true]) (E1++ [tC (nt (de 0 true h4)),.ret _ _ _ c5,.ret _ _ _ c6,.ret _ _ _ c7,.ret _ _ _ c8]) (by kernel_rfl)).to (by clear E1;(try simp only [sR,wk,aw,cO,aU] at*);(try rw [cZ ‹¬hJ v=0›]);(try simp only [cn hv,cY,fU hv (Or.inl rfl),fV hv (Or.inl rfl),ee hv,ef hv]);simp [*])
 have c9:= @a9 v hv
 have c10:= @ba v
 have c11:= @a9 v hv
 have c12:= @ba v
 exact (fq (d:= .aA [.agg [.int .i8 16,.bool false,.int .u8 c,.int .i8 (IntKind.wrap IntKind.i8 (↑(BitVec.toNat (BitVec.ofInt (8:Nat) (hY v)|||BitVec.ofInt (8:Nat) (0:Int))):Int)),.int .i8 (IntKind.wrap IntKind.i8 (↑(BitVec.toNat (BitVec.ofInt (8:Nat) (hZ v)|||BitVec.ofInt (8:Nat) (0:Int))):Int)),.int .i64 (jm v),.int .i64 (fM v (0:Nat)),.int .i64 (IntKind.i64.wrap (fh v (0:Nat))),.int .i64 (fM v (0:Nat)),.int .i64 (IntKind.i64.wrap (IntKind.wrap IntKind.i8 (fh v (0:Nat)))),.int .i8 0],.bool true]) (E1++ [tC (nt (av h4)),.ret _ _ _ c9,.ret _ _ _ c10,.ret _ _ _ c11,.ret _ _ _ c12]) (by kernel_rfl)).to (by clear E1;(try simp only [sR,wk,aw,cO,aU] at*);(try rw [cZ ‹¬hJ v=0›]);(try simp only [cn hv,cY,fU hv (Or.inl rfl),fV hv (Or.inl rfl),ee hv,ef hv]);simp [*])
theorem zZ (h:Int) (g0:0≤h) (g1:h≤255) (hq:iL h=true):aE Tryz.prog 142 ([.aj .no 1 (.int .u8 102:: .int .u8 h:: [])]) (.aA [cO (lC (if h / 8%2=1 then 64 else 16) (h%2*8)),.bool false]):=by
 have c0:= @bC 102 ([.int .u8 h])
 have c1:= @bC h ([])
 have c2:= @kp h g0 g1 hq
 rcases dT (decide (h / 8%2=1)) with h3|h3
 ·exact (fq (d:= .aA [.agg [.int .i8 64,.bool false,.int .u8 0,.int .i8 0,.int .i8 0,.int .i64 0,.int .i64 0,.int .i64 0,.int .i64 0,.int .i64 0,.int .i8 (h%2*8)],.bool false]) [.ret _ _ _ c0,tT,tT,.ret _ _ _ c1,.ret _ _ _ c2,tT,tT,tC h3,tT] (by kernel_rfl)).to (by first|(simp [wk,aw,cO,lC, *];done)|(simp only [decide_eq_true_eq,decide_eq_false_iff_not] at*;simp [wk,aw,cO,lC, *]))
 exact (fq (d:= .aA [.agg [.int .i8 16,.bool false,.int .u8 0,.int .i8 0,.int .i8 0,.int .i64 0,.int .i64 0,.int .i64 0,.int .i64 0,.int .i64 0,.int .i8 (h%2*8)],.bool false]) [.ret _ _ _ c0,tT,tT,.ret _ _ _ c1,.ret _ _ _ c2,tT,tT,tC h3,tT] (by kernel_rfl)).to (by first|(simp [wk,aw,cO,lC, *];done)|(simp only [decide_eq_true_eq,decide_eq_false_iff_not] at*;simp [wk,aw,cO,lC, *]))
theorem Aa (h:Int) (g0:0≤h) (g1:h≤255) (hq:iL h=true) (d:Int) (v:List Int) (hv:gQ v):aE Tryz.prog 142 ([.aj .no 1 (.int .u8 102:: .int .u8 h:: .int .u8 15:: .int .u8 d::bD v)]) (.aA [cO (aU (if h / 8%2=1 then 64 else 16) (h / 4%2*8) (h%2*8) true d v),.bool true]):=by
 have c0:= @bC 102 (.int .u8 h:: .int .u8 15:: .int .u8 d::bD v)
 have c1:= @bC h (.int .u8 15:: .int .u8 d::bD v)
 have c2:= @kp h g0 g1 hq
 let E1:EL:= [.ret _ _ _ c0,tT,.cU (decide ((0:Int)≤(1:Int)∧(1:Int)≤(↑(List.length (.int .u8 102:: .int .u8 h:: .int .u8 15:: .int .u8 d::bD v)):Int))) true (by simp [aN]<;>omega),.ret _ _ _ c1,.ret _ _ _ c2,tT,.cU (decide ((0:Int)≤(1:Int)∧(1:Int)≤(↑(List.length (List.drop (Int.toNat (1:Int)) (.int .u8 102:: .int .u8 h:: .int .u8 15:: .int .u8 d::bD v))):Int))) true (by simp [aN]<;>omega)]
 rcases dT (decide (h / (8:Int)%(2:Int)=(1:Int))) with h3|h3
 ·have c4:= @j4 v hv
  let E2:EL:=E1++ [tC h3,tF,.get (.int .u8 15:: .int .u8 d::bD v) 0 (.int .u8 15) rfl,.cU (decide ((0:Int)≤(1:Int)∧(1:Int)≤(↑(List.length (List.drop (Int.toNat (1:Int)) (List.drop (Int.toNat (1:Int)) (.int .u8 102:: .int .u8 h:: .int .u8 15:: .int .u8 d::bD v)))):Int))) true (by simp [aN]<;>omega),tT,tT,tT,tT,tC (a7 0 (by simp [aN]<;>omega:(decide ((↑(List.length (.int .u8 d::bD v)):Int)<(1:Int)))=false)),.get (.int .u8 d::bD v) 0 (.int .u8 d) rfl,.cU (decide ((0:Int)≤(1:Int)∧(1:Int)≤(↑(List.length (List.drop (Int.toNat (1:Int)) (List.drop (Int.toNat (1:Int)) (List.drop (Int.toNat (1:Int)) (.int .u8 102:: .int .u8 h:: .int .u8 15:: .int .u8 d::bD v))))):Int))) true (by simp [aN]<;>omega),.ret _ _ _ c4]
  by_cases h5:hJ v=0
  ·have c6:= @dF v hv
   have c7:= @dG v
   have c8:= @a9 v hv
   have c9:= @ba v
   exact (fq (d:= .aA [.agg [.int .i8 64,.bool true,.int .u8 d,.int .i8 (IntKind.wrap IntKind.i8 (↑(BitVec.toNat (BitVec.ofInt (8:Nat) (hY v)|||BitVec.ofInt (8:Nat) (h / (4:Int)%(2:Int)*(8:Int)))):Int)),.int .i8 (IntKind.wrap IntKind.i8 (↑(BitVec.toNat (BitVec.ofInt (8:Nat) (hZ v)|||BitVec.ofInt (8:Nat) (h%(2:Int)*(8:Int)))):Int)),.int .i64 (jm v),.int .i64 (fM v (fB v)),.int .i64 (IntKind.i64.wrap (fh v (fB v))),.int .i64 (fM v (0:Nat)),.int .i64 (IntKind.i64.wrap (IntKind.wrap IntKind.i8 (fh v (0:Nat)))),.int .i8 (h%(2:Int)*(8:Int))],.bool true]) (E2++ [tC (nt (de 0 true h5)),.ret _ _ _ c6,.ret _ _ _ c7,.ret _ _ _ c8,.ret _ _ _ c9]) (by kernel_rfl)).to (by clear E1 E2;(try simp only [sR,wk,aw,cO,aU] at*);(try rw [cZ ‹¬hJ v=0›]);(try simp only [cn hv,cY,fU hv (Or.inl rfl),fV hv (Or.inl rfl),ee hv,ef hv]);simp [*])
  have c10:= @a9 v hv
  have c11:= @ba v
  have c12:= @a9 v hv
  have c13:= @ba v
  exact (fq (d:= .aA [.agg [.int .i8 64,.bool true,.int .u8 d,.int .i8 (IntKind.wrap IntKind.i8 (↑(BitVec.toNat (BitVec.ofInt (8:Nat) (hY v)|||BitVec.ofInt (8:Nat) (h / (4:Int)%(2:Int)*(8:Int)))):Int)),.int .i8 (IntKind.wrap IntKind.i8 (↑(BitVec.toNat (BitVec.ofInt (8:Nat) (hZ v)|||BitVec.ofInt (8:Nat) (h%(2:Int)*(8:Int)))):Int)),.int .i64 (jm v),.int .i64 (fM v (0:Nat)),.int .i64 (IntKind.i64.wrap (fh v (0:Nat))),.int .i64 (fM v (0:Nat)),.int .i64 (IntKind.i64.wrap (IntKind.wrap IntKind.i8 (fh v (0:Nat)))),.int .i8 (h%(2:Int)*(8:Int))],.bool true]) (E2++ [tC (nt (av h5)),.ret _ _ _ c10,.ret _ _ _ c11,.ret _ _ _ c12,.ret _ _ _ c13]) (by kernel_rfl)).to (by clear E1 E2;(try simp only [sR,wk,aw,cO,aU] at*);(try rw [cZ ‹¬hJ v=0›]);(try simp only [cn hv,cY,fU hv (Or.inl rfl),fV hv (Or.inl rfl),ee hv,ef hv]);simp [*])
 have c14:= @j4 v hv
 let E3:EL:=E1++ [tC h3,tF,.get (.int .u8 15:: .int .u8 d::bD v) 0 (.int .u8 15) rfl,.cU (decide ((0:Int)≤(1:Int)∧(1:Int)≤(↑(List.length (List.drop (Int.toNat (1:Int)) (List.drop (Int.toNat (1:Int)) (.int .u8 102:: .int .u8 h:: .int .u8 15:: .int .u8 d::bD v)))):Int))) true (by simp [aN]<;>omega),tT,tT,tT,tT,tC (a7 0 (by simp [aN]<;>omega:(decide ((↑(List.length (.int .u8 d::bD v)):Int)<(1:Int)))=false)),.get (.int .u8 d::bD v) 0 (.int .u8 d) rfl,.cU (decide ((0:Int)≤(1:Int)∧(1:Int)≤(↑(List.length (List.drop (Int.toNat (1:Int)) (List.drop (Int.toNat (1:Int)) (List.drop (Int.toNat (1:Int)) (.int .u8 102:: .int .u8 h:: .int .u8 15:: .int .u8 d::bD v))))):Int))) true (by simp [aN]<;>omega),.ret _ _ _ c14]
 by_cases h15:hJ v=0
 ·have c16:= @dF v hv
  have c17:= @dG v
  have c18:= @a9 v hv
  have c19:= @ba v
  exact (fq (d:= .aA [.agg [.int .i8 16,.bool true,.int .u8 d,.int .i8 (IntKind.wrap IntKind.i8 (↑(BitVec.toNat (BitVec.ofInt (8:Nat) (hY v)|||BitVec.ofInt (8:Nat) (h / (4:Int)%(2:Int)*(8:Int)))):Int)),.int .i8 (IntKind.wrap IntKind.i8 (↑(BitVec.toNat (BitVec.ofInt (8:Nat) (hZ v)|||BitVec.ofInt (8:Nat) (h%(2:Int)*(8:Int)))):Int)),.int .i64 (jm v),.int .i64 (fM v (fB v)),.int .i64 (IntKind.i64.wrap (fh v (fB v))),.int .i64 (fM v (0:Nat)),.int .i64 (IntKind.i64.wrap (IntKind.wrap IntKind.i8 (fh v (0:Nat)))),.int .i8 (h%(2:Int)*(8:Int))],.bool true]) (E3++ [tC (nt (de 0 true h15)),.ret _ _ _ c16,.ret _ _ _ c17,.ret _ _ _ c18,.ret _ _ _ c19]) (by kernel_rfl)).to (by clear E1 E3;(try simp only [sR,wk,aw,cO,aU] at*);(try rw [cZ ‹¬hJ v=0›]);(try simp only [cn hv,cY,fU hv (Or.inl rfl),fV hv (Or.inl rfl),ee hv,ef hv]);simp [*])
 have c20:= @a9 v hv
 have c21:= @ba v
 have c22:= @a9 v hv
 have c23:= @ba v
 exact (fq (d:= .aA [.agg [.int .i8 16,.bool true,.int .u8 d,.int .i8 (IntKind.wrap IntKind.i8 (↑(BitVec.toNat (BitVec.ofInt (8:Nat) (hY v)|||BitVec.ofInt (8:Nat) (h / (4:Int)%(2:Int)*(8:Int)))):Int)),.int .i8 (IntKind.wrap IntKind.i8 (↑(BitVec.toNat (BitVec.ofInt (8:Nat) (hZ v)|||BitVec.ofInt (8:Nat) (h%(2:Int)*(8:Int)))):Int)),.int .i64 (jm v),.int .i64 (fM v (0:Nat)),.int .i64 (IntKind.i64.wrap (fh v (0:Nat))),.int .i64 (fM v (0:Nat)),.int .i64 (IntKind.i64.wrap (IntKind.wrap IntKind.i8 (fh v (0:Nat)))),.int .i8 (h%(2:Int)*(8:Int))],.bool true]) (E3++ [tC (nt (av h15)),.ret _ _ _ c20,.ret _ _ _ c21,.ret _ _ _ c22,.ret _ _ _ c23]) (by kernel_rfl)).to (by clear E1 E3;(try simp only [sR,wk,aw,cO,aU] at*);(try rw [cZ ‹¬hJ v=0›]);(try simp only [cn hv,cY,fU hv (Or.inl rfl),fV hv (Or.inl rfl),ee hv,ef hv]);simp [*])
theorem Ab (h:Int) (g0:0≤h) (g1:h≤255) (hq:iL h=true):aE Tryz.prog 142 ([.aj .no 1 (.int .u8 102:: .int .u8 h:: .int .u8 15:: [])]) (.aA [cO (aU (if h / 8%2=1 then 64 else 16) (h / 4%2*8) (h%2*8) false 15 []),.bool true]):=by
 have c0:= @bC 102 ([.int .u8 h,.int .u8 15])
 have c1:= @bC h ([.int .u8 15])
 have c2:= @kp h g0 g1 hq
 rcases dT (decide (h / 8%2=1)) with h3|h3
 ·have c4:= @gO
  have c5:= @du
  have c6:= @du
  exact (fq (d:= .aA [.agg [.int .i8 64,.bool false,.int .u8 15,.int .i8 (IntKind.wrap IntKind.i8 (↑(BitVec.toNat (BitVec.ofInt (8:Nat) 0|||BitVec.ofInt (8:Nat) (h / 4%2*8))):Int)),.int .i8 (IntKind.wrap IntKind.i8 (↑(BitVec.toNat (BitVec.ofInt (8:Nat) 0|||BitVec.ofInt (8:Nat) (h%2*8))):Int)),.int .i64 0,.int .i64 0,.int .i64 0,.int .i64 0,.int .i64 0,.int .i8 (h%2*8)],.bool true]) [.ret _ _ _ c0,tT,tT,.ret _ _ _ c1,.ret _ _ _ c2,tT,tT,tC h3,tF,.get ([.int .u8 15]) 0 (.int .u8 15) rfl,tT,tT,tT,tT,tT,tF,.ret _ _ _ c4,tT,.inl,tT,.ret _ _ _ c5,.inl,tT,.ret _ _ _ c6] (by kernel_rfl)).to (by (try simp only [sR,wk,aw,cO,aU] at*);(try rw [cZ ‹¬hJ []=0›]);(try simp only [cn fW,cY,fU fW (Or.inl rfl),fV fW (Or.inl rfl),ee fW,ef fW]);simp [*,hY,hZ,jm,fB,fM,fh,dw,ke];omega)
 have c7:= @gO
 have c8:= @du
 have c9:= @du
 exact (fq (d:= .aA [.agg [.int .i8 16,.bool false,.int .u8 15,.int .i8 (IntKind.wrap IntKind.i8 (↑(BitVec.toNat (BitVec.ofInt (8:Nat) 0|||BitVec.ofInt (8:Nat) (h / 4%2*8))):Int)),.int .i8 (IntKind.wrap IntKind.i8 (↑(BitVec.toNat (BitVec.ofInt (8:Nat) 0|||BitVec.ofInt (8:Nat) (h%2*8))):Int)),.int .i64 0,.int .i64 0,.int .i64 0,.int .i64 0,.int .i64 0,.int .i8 (h%2*8)],.bool true]) [.ret _ _ _ c0,tT,tT,.ret _ _ _ c1,.ret _ _ _ c2,tT,tT,tC h3,tF,.get ([.int .u8 15]) 0 (.int .u8 15) rfl,tT,tT,tT,tT,tT,tF,.ret _ _ _ c7,tT,.inl,tT,.ret _ _ _ c8,.inl,tT,.ret _ _ _ c9] (by kernel_rfl)).to (by (try simp only [sR,wk,aw,cO,aU] at*);(try rw [cZ ‹¬hJ []=0›]);(try simp only [cn fW,cY,fU fW (Or.inl rfl),fV fW (Or.inl rfl),ee fW,ef fW]);simp [*,hY,hZ,jm,fB,fM,fh,dw,ke];omega)
theorem z7 (h:Int) (g0:0≤h) (g1:h≤255) (hq:iL h=true) (c:Int) (hc:¬c=15) (v:List Int) (hv:gQ v):aE Tryz.prog 142 ([.aj .no 1 (.int .u8 102:: .int .u8 h:: .int .u8 c::bD v)]) (.aA [cO (aU (if h / 8%2=1 then 64 else 16) (h / 4%2*8) (h%2*8) false c v),.bool true]):=by
 have c0:= @bC 102 (.int .u8 h:: .int .u8 c::bD v)
 have c1:= @bC h (.int .u8 c::bD v)
 have c2:= @kp h g0 g1 hq
 let E1:EL:= [.ret _ _ _ c0,tT,.cU (decide ((0:Int)≤(1:Int)∧(1:Int)≤(↑(List.length (.int .u8 102:: .int .u8 h:: .int .u8 c::bD v)):Int))) true (by simp [aN]<;>omega),.ret _ _ _ c1,.ret _ _ _ c2,tT,.cU (decide ((0:Int)≤(1:Int)∧(1:Int)≤(↑(List.length (List.drop (Int.toNat (1:Int)) (.int .u8 102:: .int .u8 h:: .int .u8 c::bD v))):Int))) true (by simp [aN]<;>omega)]
 rcases dT (decide (h / (8:Int)%(2:Int)=(1:Int))) with h3|h3
 ·have c4:= @j4 v hv
  let E2:EL:=E1++ [tC h3,tF,.get (.int .u8 c::bD v) 0 (.int .u8 c) rfl,.cU (decide ((0:Int)≤(1:Int)∧(1:Int)≤(↑(List.length (List.drop (Int.toNat (1:Int)) (List.drop (Int.toNat (1:Int)) (.int .u8 102:: .int .u8 h:: .int .u8 c::bD v)))):Int))) true (by simp [aN]<;>omega)]++List.replicate 3 (tC (eT (by simp [aN]<;>omega:(c==(15:Int))=false)))++ [tC (by simp [aN]<;>omega:(c==(15:Int))=false),tF,.ret _ _ _ c4]
  by_cases h5:hJ v=0
  ·have c6:= @dF v hv
   have c7:= @dG v
   have c8:= @a9 v hv
   have c9:= @ba v
   exact (fq (d:= .aA [.agg [.int .i8 64,.bool false,.int .u8 c,.int .i8 (IntKind.wrap IntKind.i8 (↑(BitVec.toNat (BitVec.ofInt (8:Nat) (hY v)|||BitVec.ofInt (8:Nat) (h / (4:Int)%(2:Int)*(8:Int)))):Int)),.int .i8 (IntKind.wrap IntKind.i8 (↑(BitVec.toNat (BitVec.ofInt (8:Nat) (hZ v)|||BitVec.ofInt (8:Nat) (h%(2:Int)*(8:Int)))):Int)),.int .i64 (jm v),.int .i64 (fM v (fB v)),.int .i64 (IntKind.i64.wrap (fh v (fB v))),.int .i64 (fM v (0:Nat)),.int .i64 (IntKind.i64.wrap (IntKind.wrap IntKind.i8 (fh v (0:Nat)))),.int .i8 (h%(2:Int)*(8:Int))],.bool true]) (E2++ [tC (nt (de 0 true h5)),.ret _ _ _ c6,.ret _ _ _ c7,.ret _ _ _ c8,.ret _ _ _ c9]) (by kernel_rfl)).to (by clear E1 E2;(try simp only [sR,wk,aw,cO,aU] at*);(try rw [cZ ‹¬hJ v=0›]);(try simp only [cn hv,cY,fU hv (Or.inl rfl),fV hv (Or.inl rfl),ee hv,ef hv]);simp [*])
  have c10:= @a9 v hv
  have c11:= @ba v
  have c12:= @a9 v hv
  have c13:= @ba v
  exact (fq (d:= .aA [.agg [.int .i8 64,.bool false,.int .u8 c,.int .i8 (IntKind.wrap IntKind.i8 (↑(BitVec.toNat (BitVec.ofInt (8:Nat) (hY v)|||BitVec.ofInt (8:Nat) (h / (4:Int)%(2:Int)*(8:Int)))):Int)),.int .i8 (IntKind.wrap IntKind.i8 (↑(BitVec.toNat (BitVec.ofInt (8:Nat) (hZ v)|||BitVec.ofInt (8:Nat) (h%(2:Int)*(8:Int)))):Int)),.int .i64 (jm v),.int .i64 (fM v (0:Nat)),.int .i64 (IntKind.i64.wrap (fh v (0:Nat))),.int .i64 (fM v (0:Nat)),.int .i64 (IntKind.i64.wrap (IntKind.wrap IntKind.i8 (fh v (0:Nat)))),.int .i8 (h%(2:Int)*(8:Int))],.bool true]) (E2++ [tC (nt (av h5)),.ret _ _ _ c10,.ret _ _ _ c11,.ret _ _ _ c12,.ret _ _ _ c13]) (by kernel_rfl)).to (by clear E1 E2;(try simp only [sR,wk,aw,cO,aU] at*);(try rw [cZ ‹¬hJ v=0›]);(try simp only [cn hv,cY,fU hv (Or.inl rfl),fV hv (Or.inl rfl),ee hv,ef hv]);simp [*])
 have c14:= @j4 v hv
 let E3:EL:=E1++ [tC h3,tF,.get (.int .u8 c::bD v) 0 (.int .u8 c) rfl,.cU (decide ((0:Int)≤(1:Int)∧(1:Int)≤(↑(List.length (List.drop (Int.toNat (1:Int)) (List.drop (Int.toNat (1:Int)) (.int .u8 102:: .int .u8 h:: .int .u8 c::bD v)))):Int))) true (by simp [aN]<;>omega)]++List.replicate 3 (tC (eT (by simp [aN]<;>omega:(c==(15:Int))=false)))++ [tC (by simp [aN]<;>omega:(c==(15:Int))=false),tF,.ret _ _ _ c14]
 by_cases h15:hJ v=0
 ·have c16:= @dF v hv
  have c17:= @dG v
  have c18:= @a9 v hv
  have c19:= @ba v
  exact (fq (d:= .aA [.agg [.int .i8 16,.bool false,.int .u8 c,.int .i8 (IntKind.wrap IntKind.i8 (↑(BitVec.toNat (BitVec.ofInt (8:Nat) (hY v)|||BitVec.ofInt (8:Nat) (h / (4:Int)%(2:Int)*(8:Int)))):Int)),.int .i8 (IntKind.wrap IntKind.i8 (↑(BitVec.toNat (BitVec.ofInt (8:Nat) (hZ v)|||BitVec.ofInt (8:Nat) (h%(2:Int)*(8:Int)))):Int)),.int .i64 (jm v),.int .i64 (fM v (fB v)),.int .i64 (IntKind.i64.wrap (fh v (fB v))),.int .i64 (fM v (0:Nat)),.int .i64 (IntKind.i64.wrap (IntKind.wrap IntKind.i8 (fh v (0:Nat)))),.int .i8 (h%(2:Int)*(8:Int))],.bool true]) (E3++ [tC (nt (de 0 true h15)),.ret _ _ _ c16,.ret _ _ _ c17,.ret _ _ _ c18,.ret _ _ _ c19]) (by kernel_rfl)).to (by clear E1 E3;(try simp only [sR,wk,aw,cO,aU] at*);(try rw [cZ ‹¬hJ v=0›]);(try simp only [cn hv,cY,fU hv (Or.inl rfl),fV hv (Or.inl rfl),ee hv,ef hv]);simp [*])
 have c20:= @a9 v hv
 have c21:= @ba v
 have c22:= @a9 v hv
 have c23:= @ba v
 exact (fq (d:= .aA [.agg [.int .i8 16,.bool false,.int .u8 c,.int .i8 (IntKind.wrap IntKind.i8 (↑(BitVec.toNat (BitVec.ofInt (8:Nat) (hY v)|||BitVec.ofInt (8:Nat) (h / (4:Int)%(2:Int)*(8:Int)))):Int)),.int .i8 (IntKind.wrap IntKind.i8 (↑(BitVec.toNat (BitVec.ofInt (8:Nat) (hZ v)|||BitVec.ofInt (8:Nat) (h%(2:Int)*(8:Int)))):Int)),.int .i64 (jm v),.int .i64 (fM v (0:Nat)),.int .i64 (IntKind.i64.wrap (fh v (0:Nat))),.int .i64 (fM v (0:Nat)),.int .i64 (IntKind.i64.wrap (IntKind.wrap IntKind.i8 (fh v (0:Nat)))),.int .i8 (h%(2:Int)*(8:Int))],.bool true]) (E3++ [tC (nt (av h15)),.ret _ _ _ c20,.ret _ _ _ c21,.ret _ _ _ c22,.ret _ _ _ c23]) (by kernel_rfl)).to (by clear E1 E3;(try simp only [sR,wk,aw,cO,aU] at*);(try rw [cZ ‹¬hJ v=0›]);(try simp only [cn hv,cY,fU hv (Or.inl rfl),fV hv (Or.inl rfl),ee hv,ef hv]);simp [*])
theorem Cf (b:List Int) (hb:gQ b):∃x,aE Tryz.prog 142 [.aj .no 1 (bD b)] (.aA [cO x,.bool (jx b).isSome])∧∀s,jx b=some s→x=s:=by
 have wa:∀(half:Bool) (w:Int) (p t:List Int),gQ t→(half=true∧p= [102]∧w=16∨half=false∧p= []∧w=32∧hd t≠102)→jx (p++t)=e8 w t→
   ∃x,aE Tryz.prog 142 [.aj .no 1 (bD (p++t))] (.aA [cO x,.bool (jx (p++t)).isSome])∧∀s,jx (p++t)=some s→x=s:=by
  intro half w p t ht hc hp
  rw [hp]
  have out:∀(x:au) (k:Bool),aE Tryz.prog 142 [.aj .no 1 (bD (p++t))] (.aA [cO x,.bool k])→(k=false∧e8 w t=none)∨(k=true∧e8 w t=some x)→
    ∃x,aE Tryz.prog 142 [.aj .no 1 (bD (p++t))] (.aA [cO x,.bool (e8 w t).isSome])∧∀s,e8 w t=some s→x=s:=by
   rintro x k h (⟨rfl,e⟩|⟨rfl,e⟩)
   ·exact ⟨x,by rw [e];exact h,fun s hs=>by rw [e] at hs;cases hs⟩
   ·exact ⟨x,by rw [e];exact h,fun s hs=>by rw [e] at hs;exact Option.some.inj hs⟩
  match t,ht with
  | [],_=>
   rcases hc with ⟨-,rfl,rfl⟩|⟨-,rfl,rfl,-⟩
   ·exact out _ _ zV (.inl ⟨rfl,rfl⟩)
   ·exact out _ _ zN (.inl ⟨rfl,rfl⟩)
  |h::u,ht=>
   obtain ⟨⟨g0,g1⟩,hu⟩:=dW.1 ht
   by_cases hq:iL h=true
   ·
    have e:e8 w (h::u)=fE (if h / 8%2=1 then 64 else w) (h / 4%2*8) (h%2*8) u:=by simp only [e8,if_pos hq]
    match u,hu with
    | [],_=>
     rcases hc with ⟨-,rfl,rfl⟩|⟨-,rfl,rfl,hh⟩
     ·exact out _ _ (zZ h g0 g1 hq) (.inl ⟨rfl,by rw [e];rfl⟩)
     ·exact out _ _ (zR h g0 g1 hq (by simpa [hd] using hh)) (.inl ⟨rfl,by rw [e];rfl⟩)
    |c::v,hu=>
     obtain ⟨⟨k0,k1⟩,hv⟩:=dW.1 hu
     by_cases hc15:c=15
     ·subst hc15
      match v,hv with
      | [],_=>
       rcases hc with ⟨-,rfl,rfl⟩|⟨-,rfl,rfl,hh⟩
       ·exact out _ _ (Ab h g0 g1 hq) (.inr ⟨rfl,by rw [e];rfl⟩)
       ·exact out _ _ (zU h g0 g1 hq (by simpa [hd] using hh)) (.inr ⟨rfl,by rw [e];rfl⟩)
      |d::v,hv=>
       obtain ⟨-,hv⟩:=dW.1 hv
       rcases hc with ⟨-,rfl,rfl⟩|⟨-,rfl,rfl,hh⟩
       ·exact out _ _ (Aa h g0 g1 hq d v hv) (.inr ⟨rfl,by rw [e];rfl⟩)
       ·exact out _ _ (zT h g0 g1 hq (by simpa [hd] using hh) d v hv) (.inr ⟨rfl,by rw [e];rfl⟩)
     ·rcases hc with ⟨-,rfl,rfl⟩|⟨-,rfl,rfl,hh⟩
      ·exact out _ _ (z7 h g0 g1 hq c hc15 v hv) (.inr ⟨rfl,by rw [e];exact cz hc15⟩)
      ·exact out _ _ (zS h g0 g1 hq (by simpa [hd] using hh) c hc15 v hv) (.inr ⟨rfl,by rw [e];exact cz hc15⟩)
   ·
    have hq':iL h=false:=by simpa using hq
    have e:e8 w (h::u)=fE w 0 0 (h::u):=by simp only [e8,if_neg hq]
    by_cases hc15:h=15
    ·subst hc15
     match u,hu with
     | [],_=>
      rcases hc with ⟨-,rfl,rfl⟩|⟨-,rfl,rfl,hh⟩
      ·exact out _ _ zY (.inr ⟨rfl,by rw [e];rfl⟩)
      ·exact out _ _ zQ (.inr ⟨rfl,by rw [e];rfl⟩)
     |d::v,hu=>
      obtain ⟨-,hv⟩:=dW.1 hu
      rcases hc with ⟨-,rfl,rfl⟩|⟨-,rfl,rfl,hh⟩
      ·exact out _ _ (zX d v hv) (.inr ⟨rfl,by rw [e];rfl⟩)
      ·exact out _ _ (zP d v hv) (.inr ⟨rfl,by rw [e];rfl⟩)
    ·rcases hc with ⟨-,rfl,rfl⟩|⟨-,rfl,rfl,hh⟩
     ·exact out _ _ (zW h g0 g1 hq' hc15 u hu) (.inr ⟨rfl,by rw [e];exact cz hc15⟩)
     ·exact out _ _ (zO h g0 g1 hq' (by simpa [hd] using hh) hc15 u hu) (.inr ⟨rfl,by rw [e];exact cz hc15⟩)
 by_cases h102:hd b=102
 ·match b,hb,h102 with
  |a::t,hb,h102=>
   have ha:a=102:=by simpa [hd] using h102
   subst ha
   exact wa true 16 [102] t (dW.1 hb).2 (.inl ⟨rfl,rfl,rfl⟩) (by simp only [jx,List.cons_append,List.nil_append];rw [if_pos (by rfl)];rfl)
  | [],_,h=>simp [hd] at h
 ·exact wa false 32 [] b hb (.inr ⟨rfl,rfl,rfl,h102⟩) (by simp only [jx,List.nil_append];rw [if_neg h102])
end Go.Proofs.YtbfpahigdpigpaaGreat
