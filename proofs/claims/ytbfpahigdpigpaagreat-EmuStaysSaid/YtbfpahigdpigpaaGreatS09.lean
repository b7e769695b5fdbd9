import Derived.WalkKit
import Derived.IntWalk
import Derived.KernelRfl
import Derived.LoopN
import Derived.Test.YtbfpahigdpigpaaGreatS05
import Derived.Test.YtbfpahigdpigpaaGreatS06
import Derived.Test.YtbfpahigdpigpaaGreatS07
import Derived.Test.YtbfpahigdpigpaaGreatS08
open BitVec renaming ofInt→Xf,toNat→Xm
open List renaming replicate→Xg,length→Xj,getElem?_map→XH,take→Yz
open Go.Proofs.Tryz renaming prog→Xh,f81→X9
open Int renaming toNat→Xi,lt_add_one_of_le→Xl,fdiv→Xq
open Bool renaming eq_iff_iff→Xn
open Go renaming IntKind→YO
/- Contracts and plain laws that a statement's proof leans on (texts merged:XRef4,XRefA,XB0,NumA,XB1,XB2a,XB2b,XB2c,XB2d,XB2e,XBytes,XB3,XBytes2,XLen,XD2). -/
set_option linter.unusedVariables false
set_option linter.unusedSimpArgs false
set_option maxRecDepth 100000
set_option maxHeartbeats 8000000
namespace Go.Proofs.YtbfpahigdpigpaaGreat
open Go Go.Ev
theorem zH (op w ab ae aa af aq cc:Int) (h:(aF op==9)=true) (hc:(bz op==8)=true):aY Xh 41 ([xD op w ab ae aa af aq cc]) (ax (a8 op w ab ae aa af aq cc)):=by
 have c0:= @aR op
 rw [eq_of_beq hc] at c0
 have c1:= @vm op w ab ae aa af aq cc (cP 8 true (eq_of_beq hc))
 let E1:EL:= [aw c0,tT,tT,tT,aw c1,tT,.flat _ _ eh,tF]
 rcases cQ (bA [aj op,aj w,aj ab,aj ae,aj aa,ao af,ao aq,aj cc] [aj op,aj w,aj 0,aj 0,aj 0,ao 0,ao aq,aj 0]) with h2|h2
 ·have c3:= @dy ab
  generalize g5:aL ab=r4 at c3
  let E2:EL:=E1++Xg 3 (tC (eF (nt h2)))++ [aw c3,tC (eF (nt h2)),tC (nt h2)]
  cases r4
  ·exact (gg (d:= .bool false) (E2++(bK 21 1589776))).to (by clear E1 E2;(try simp only [cj,aC,a8,aL,br,aE,ay,a9,bB] at*);(simp [aC,a8,aL,br,aE,ay,a9,bB, *];done))
  have c6:= @dy ae
  generalize g8:aL ae=r7 at c6
  let E3:EL:=E2++ [tT,tT,tT,aw c6,tT,tF]
  cases r7
  ·exact (gg (d:= .bool false) (E3++(bK 16 49680))).to (by clear E1 E2 E3;(try simp only [cj,aC,a8,aL,br,aE,ay,a9,bB] at*);(simp [aC,a8,aL,br,aE,ay,a9,bB, *];done))
  have c9:= @dy aa
  generalize g11:aL aa=RC at c9
  let E4:EL:=E3++ [tT,tT,tT,aw c9,tT,tF]
  cases RC
  ·exact (gg (d:= .bool false) (E4++(bK 11 1552))).to (by clear E1 E2 E3 E4;(try simp only [cj,aC,a8,aL,br,aE,ay,a9,bB] at*);(simp [aC,a8,aL,br,aE,ay,a9,bB, *];done))
  have Q0:= @dU af
  let E5:EL:=E4++ [tT,tT,tT,aw Q0,tT,tF]
  rcases cQ (decide ((-2147483648)≤af∧af≤2147483647)) with h13|h13
  ·have RB:= @dU aq
   let E6:EL:=E5++Xg 3 (tC (eF (nt h13)))++ [aw RB,tC (eF (nt h13)),tC (nt h13)]
   rcases cQ (decide ((-2147483648)≤aq∧aq≤2147483647)) with h15|h15
   ·let E7:EL:=E6++([tC (nt h15)]++bK 8 128)
    by_cases h16:w=32
    ·subst h16
     exact (gg (d:= .bool true) (E7++ [tF,tF,tF,tF,tF,tT])).to (by clear E1 E2 E3 E4 E5 E6 E7;(try simp only [cj,aC,a8,aL,br,aE,ay,a9,bB] at*);(rw [Xn];simp [aC,a8,aL,br,aE,ay,a9,bB, *];grind))
    by_cases h17:w=8
    ·subst h17
     have S6:= @Ck aq
     exact (gg (d:= .bool (decide ((-128)≤aq∧aq≤127))) (E7++Xg 4 (tC (eF (aH h16)))++ [tT,tT,tT,aw S6,tT,tT,tF])).to (by clear E1 E2 E3 E4 E5 E6 E7;(try simp only [cj,aC,a8,aL,br,aE,ay,a9,bB] at*);(rw [Xn];simp [aC,a8,aL,br,aE,ay,a9,bB, *];grind))
    exact (gg (d:= .bool false) (E7++Xg 4 (tC (eF (aH h16)))++Xg 3 (tC (eT (aH h17)))++ [tC (eF (aH h16)),tC (aH h17),tC (aH h16)])).to (by clear E1 E2 E3 E4 E5 E6 E7;(try simp only [cj,aC,a8,aL,br,aE,ay,a9,bB] at*);(simp [aC,a8,aL,br,aE,ay,a9,bB, *];done))
   exact (gg (d:= .bool false) (E6++ [tC (nt h15)])).to (by clear E1 E2 E3 E4 E5 E6;(try simp only [cj,aC,a8,aL,br,aE,ay,a9,bB] at*);(simp [aC,a8,aL,br,aE,ay,a9,bB, *];done))
  exact (gg (d:= .bool false) (E5++Xg 4 (tC (eF (nt h13)))++ [tC (nt h13),tT])).to (by clear E1 E2 E3 E4 E5;(try simp only [cj,aC,a8,aL,br,aE,ay,a9,bB] at*);(simp [aC,a8,aL,br,aE,ay,a9,bB, *];done))
 exact (gg (d:= .bool false) (E1++Xg 4 (tC (eF (nt h2)))++([tC (nt h2)]++bK 21 1589776))).to (by clear E1;(try simp only [cj,aC,a8,aL,br,aE,ay,a9,bB] at*);(rw [Xn];simp [aC,a8,aL,br,aE,ay,a9,bB, *];grind))
theorem xS (op w ab ae aa af aq cc:Int) (h:(aF op==10)=true) (hc:(bz op==9)=true):aY Xh 41 ([xD op w ab ae aa af aq cc]) (ax (a8 op w ab ae aa af aq cc)):=by
 have c0:= @aR op
 rw [eq_of_beq hc] at c0
 have c1:= @vl op w ab ae aa af aq cc (cP 9 true (eq_of_beq hc))
 let E1:EL:= [aw c0,tT,tT,tT,aw c1,tT,.flat _ _ eh,tF]
 rcases cQ (bA [aj op,aj w,aj ab,aj ae,aj aa,ao af,ao aq,aj cc] [aj op,aj w,aj 0,aj 0,aj 0,ao 0,ao aq,aj cc]) with h2|h2
 ·have c3:= @dy ab
  generalize g5:aL ab=r4 at c3
  let E2:EL:=E1++Xg 3 (tC (eF (nt h2)))++ [aw c3,tC (eF (nt h2)),tC (nt h2)]
  cases r4
  ·exact (gg (d:= .bool false) (E2++(bK 21 1589776))).to (by clear E1 E2;(try simp only [cj,aC,a8,aL,br,aE,ay,a9,bB] at*);(simp [aC,a8,aL,br,aE,ay,a9,bB, *];done))
  have c6:= @dy ae
  generalize g8:aL ae=r7 at c6
  let E3:EL:=E2++ [tT,tT,tT,aw c6,tT,tF]
  cases r7
  ·exact (gg (d:= .bool false) (E3++(bK 16 49680))).to (by clear E1 E2 E3;(try simp only [cj,aC,a8,aL,br,aE,ay,a9,bB] at*);(simp [aC,a8,aL,br,aE,ay,a9,bB, *];done))
  have c9:= @dy aa
  generalize g11:aL aa=RC at c9
  let E4:EL:=E3++ [tT,tT,tT,aw c9,tT,tF]
  cases RC
  ·exact (gg (d:= .bool false) (E4++(bK 11 1552))).to (by clear E1 E2 E3 E4;(try simp only [cj,aC,a8,aL,br,aE,ay,a9,bB] at*);(simp [aC,a8,aL,br,aE,ay,a9,bB, *];done))
  have Q0:= @dU af
  let E5:EL:=E4++ [tT,tT,tT,aw Q0,tT,tF]
  rcases cQ (decide ((-2147483648)≤af∧af≤2147483647)) with h13|h13
  ·have RB:= @dU aq
   let E6:EL:=E5++Xg 3 (tC (eF (nt h13)))++ [aw RB,tC (eF (nt h13)),tC (nt h13)]
   rcases cQ (decide ((-2147483648)≤aq∧aq≤2147483647)) with h15|h15
   ·let E7:EL:=E6++ [tC (nt h15)]++Xg 8 tF++ [tT]
    by_cases h16:w=32
    ·subst h16
     have Tc:= @z7 cc
     generalize g19:bB cc=r18 at Tc
     exact (gg (d:= .bool r18) (E7++(bK 9 480++ [aw Tc,tT]))).to (by clear E1 E2 E3 E4 E5 E6 E7;(try simp only [cj,aC,a8,aL,br,aE,ay,a9,bB] at*);(rw [Xn];simp [aC,a8,aL,br,aE,ay,a9,bB, *];grind))
    let E8:EL:=E7++Xg 4 (tC (eF (aH h16)))
    by_cases h20:w=8
    ·subst h20
     have Tq:= @Ck aq
     rcases cQ (decide ((-128)≤aq∧aq≤127)) with h22|h22
     ·have RS:= @z7 cc
      generalize g25:bB cc=r24 at RS
      exact (gg (d:= .bool r24) (E8++ [tT,tT,tT,aw Tq,tT,tT,tF,tC (eT h22),tC (eT h22),tC (eT h22),aw RS,tC h22])).to (by clear E1 E2 E3 E4 E5 E6 E7 E8;(try simp only [cj,aC,a8,aL,br,aE,ay,a9,bB] at*);(rw [Xn];simp [aC,a8,aL,br,aE,ay,a9,bB, *];grind))
     exact (gg (d:= .bool false) (E8++ [tT,tT,tT,aw Tq,tT,tT,tF,tC (eT h22),tC (eT h22),tC (eT h22),tC h22])).to (by clear E1 E2 E3 E4 E5 E6 E7 E8;(try simp only [cj,aC,a8,aL,br,aE,ay,a9,bB] at*);(simp [aC,a8,aL,br,aE,ay,a9,bB, *];done))
    exact (gg (d:= .bool false) (E8++Xg 3 (tC (eT (aH h20)))++ [tC (eF (aH h16)),tC (aH h20),tC (aH h16),tF,tF,tF,tF])).to (by clear E1 E2 E3 E4 E5 E6 E7 E8;(try simp only [cj,aC,a8,aL,br,aE,ay,a9,bB] at*);(simp [aC,a8,aL,br,aE,ay,a9,bB, *];done))
   exact (gg (d:= .bool false) (E6++ [tC (nt h15)])).to (by clear E1 E2 E3 E4 E5 E6;(try simp only [cj,aC,a8,aL,br,aE,ay,a9,bB] at*);(simp [aC,a8,aL,br,aE,ay,a9,bB, *];done))
  exact (gg (d:= .bool false) (E5++Xg 4 (tC (eF (nt h13)))++ [tC (nt h13),tT])).to (by clear E1 E2 E3 E4 E5;(try simp only [cj,aC,a8,aL,br,aE,ay,a9,bB] at*);(simp [aC,a8,aL,br,aE,ay,a9,bB, *];done))
 exact (gg (d:= .bool false) (E1++Xg 4 (tC (eF (nt h2)))++([tC (nt h2)]++bK 21 1589776))).to (by clear E1;(try simp only [cj,aC,a8,aL,br,aE,ay,a9,bB] at*);(rw [Xn];simp [aC,a8,aL,br,aE,ay,a9,bB, *];grind))
theorem xR (op w ab ae aa af aq cc:Int) (h:(aF op==11)=true) (hc:(bz op==10)=true):aY Xh 41 ([xD op w ab ae aa af aq cc]) (ax (a8 op w ab ae aa af aq cc)):=by
 have c0:= @aR op
 rw [eq_of_beq hc] at c0
 have c1:= @sL op w ab ae aa af aq cc (cP 10 true (eq_of_beq hc))
 let E1:EL:= [aw c0,tT,tT,tT,aw c1,tT,.flat _ _ eh,tF]
 rcases cQ (bA [aj op,aj w,aj ab,aj ae,aj aa,ao af,ao aq,aj cc] [aj op,aj 0,aj 0,aj 0,aj 0,ao 0,ao 0,aj 0]) with h2|h2
 ·have c3:= @dy ab
  generalize g5:aL ab=r4 at c3
  let E2:EL:=E1++Xg 3 (tC (eF (nt h2)))++ [aw c3,tC (eF (nt h2)),tC (nt h2)]
  cases r4
  ·exact (gg (d:= .bool false) (E2++(bK 21 1589776))).to (by clear E1 E2;(try simp only [cj,aC,a8,aL,br,aE,ay,a9,bB] at*);(simp [aC,a8,aL,br,aE,ay,a9,bB, *];done))
  have c6:= @dy ae
  generalize g8:aL ae=r7 at c6
  let E3:EL:=E2++ [tT,tT,tT,aw c6,tT,tF]
  cases r7
  ·exact (gg (d:= .bool false) (E3++(bK 16 49680))).to (by clear E1 E2 E3;(try simp only [cj,aC,a8,aL,br,aE,ay,a9,bB] at*);(simp [aC,a8,aL,br,aE,ay,a9,bB, *];done))
  have c9:= @dy aa
  generalize g11:aL aa=RC at c9
  let E4:EL:=E3++ [tT,tT,tT,aw c9,tT,tF]
  cases RC
  ·exact (gg (d:= .bool false) (E4++(bK 11 1552))).to (by clear E1 E2 E3 E4;(try simp only [cj,aC,a8,aL,br,aE,ay,a9,bB] at*);(simp [aC,a8,aL,br,aE,ay,a9,bB, *];done))
  have Q0:= @dU af
  rcases cQ (decide ((-2147483648)≤af∧af≤2147483647)) with h13|h13
  ·have RB:= @dU aq
   let E5:EL:=E4++ [tT,tT,tT,aw Q0,tT,tF]++Xg 3 (tC (eF (nt h13)))++ [aw RB,tC (eF (nt h13)),tC (nt h13)]
   rcases cQ (decide ((-2147483648)≤aq∧aq≤2147483647)) with h15|h15
   ·exact (gg (d:= .bool true) (E5++ [tC (nt h15)]++Xg 9 tF)).to (by clear E1 E2 E3 E4 E5;(try simp only [cj,aC,a8,aL,br,aE,ay,a9,bB] at*);(rw [Xn];simp [aC,a8,aL,br,aE,ay,a9,bB, *];grind))
   exact (gg (d:= .bool false) (E5++ [tC (nt h15)])).to (by clear E1 E2 E3 E4 E5;(try simp only [cj,aC,a8,aL,br,aE,ay,a9,bB] at*);(simp [aC,a8,aL,br,aE,ay,a9,bB, *];done))
  exact (gg (d:= .bool false) (E4++ [tT,tT,tT,aw Q0,tT,tF]++Xg 4 (tC (eF (nt h13)))++ [tC (nt h13),tT])).to (by clear E1 E2 E3 E4;(try simp only [cj,aC,a8,aL,br,aE,ay,a9,bB] at*);(simp [aC,a8,aL,br,aE,ay,a9,bB, *];done))
 exact (gg (d:= .bool false) (E1++Xg 4 (tC (eF (nt h2)))++([tC (nt h2)]++bK 21 1589776))).to (by clear E1;(try simp only [cj,aC,a8,aL,br,aE,ay,a9,bB] at*);(rw [Xn];simp [aC,a8,aL,br,aE,ay,a9,bB, *];grind))
theorem vi:∀n:Fin 32,aF (n.val:Int)=1∨aF (n.val:Int)=2∨aF (n.val:Int)=3∨aF (n.val:Int)=4∨aF (n.val:Int)=5∨aF (n.val:Int)=6∨aF (n.val:Int)=7∨aF (n.val:Int)=8∨aF (n.val:Int)=9∨aF (n.val:Int)=10∨aF (n.val:Int)=11:=by decide+kernel
theorem cG (op w ab ae aa af aq cc:Int):aY Xh 41 [xD op w ab ae aa af aq cc] (ax (a8 op w ab ae aa af aq cc)):=by
 by_cases Q4:0≤op∧op≤31
 ·have e:op=(((⟨op.toNat,by omega⟩:Fin 32).val:Nat):Int):=by simp;omega
  have hr:=vi ⟨op.toNat,by omega⟩
  rw [← e] at hr
  rcases hr with h|h|h|h|h|h|h|h|h|h|h
  ·exact zP _ _ _ _ _ _ _ _ (by rw [h];rfl) (by simp [bz,h])
  ·exact zO _ _ _ _ _ _ _ _ (by rw [h];rfl) (by simp [bz,h])
  ·exact zN _ _ _ _ _ _ _ _ (by rw [h];rfl) (by simp [bz,h])
  ·exact zM _ _ _ _ _ _ _ _ (by rw [h];rfl) (by simp [bz,h])
  ·exact zL _ _ _ _ _ _ _ _ (by rw [h];rfl) (by simp [bz,h])
  ·exact zK _ _ _ _ _ _ _ _ (by rw [h];rfl) (by simp [bz,h])
  ·exact zJ _ _ _ _ _ _ _ _ (by rw [h];rfl) (by simp [bz,h])
  ·exact zI _ _ _ _ _ _ _ _ (by rw [h];rfl) (by simp [bz,h])
  ·exact zH _ _ _ _ _ _ _ _ (by rw [h];rfl) (by simp [bz,h])
  ·exact xS _ _ _ _ _ _ _ _ (by rw [h];rfl) (by simp [bz,h])
  ·exact xR _ _ _ _ _ _ _ _ (by rw [h];rfl) (by simp [bz,h])
 ·exact zQ _ _ _ _ _ _ _ _ (by rw [(j2 (op:=op) (by omega)).1];rfl) (by simp [bz,(j2 (op:=op) (by omega)).1])
theorem dN (r:Int):aY Xh 136 ([aj r]) (ax (aL r)):=by
 rcases cQ (decide (r<0)) with h0|h0
 ·exact (N7 (d:= .bool false) [tC (eT (bO 0 h0)),tC (eT (bO 0 h0)),tC (bO 0 h0)]).to (by (try simp only [cj,aC,aL] at*);first|(simp [aC,aL, *];done)|(simp [aC,aL, *];omega)|(rw [Xn];simp [aC,aL, *];done)|(rw [Xn];simp [aC,aL, *];omega)|(rw [Xn];simp [aC,aL, *];grind)|(subst_vars;rw [Xn];simp;grind))
 exact (N7 (d:= .bool (decide (r<16))) [tC (eT (bO 0 h0)),tC (eT (bO 0 h0)),tC (bO 0 h0)]).to (by (try simp only [cj,aC,aL] at*);first|(simp [aC,aL, *];done)|(simp [aC,aL, *];omega)|(rw [Xn];simp [aC,aL, *];done)|(rw [Xn];simp [aC,aL, *];omega)|(rw [Xn];simp [aC,aL, *];grind)|(subst_vars;rw [Xn];simp;grind))
theorem tI (r:Int) (r0:0≤r) (r1:r≤15):aY Xh 137 ([aj r,aB 0]) (av (r / 8)):=(N6 (d:= .int .u8 (YO.wrap YO.u8 (YO.wrap YO.u8 (↑(Xm (Xf (8:Nat) (Xq (YO.wrap YO.u8 r) 8)&&&Xf (8:Nat) 1)):Int)*1))) [tT]).to (by simp only [wk,D.int.injEq,ev];obtain ⟨n,rfl⟩:=il r0 r1;clear r0 r1;revert n;decide+kernel)
theorem tH (r:Int) (r0:0≤r) (r1:r≤15):aY Xh 137 ([aj r,aB 2]) (av (4*(r / 8))):=(N6 (d:= .int .u8 (YO.wrap YO.u8 (YO.wrap YO.u8 (↑(Xm (Xf (8:Nat) (Xq (YO.wrap YO.u8 r) 8)&&&Xf (8:Nat) 1)):Int)*4))) [tT]).to (by simp only [wk,D.int.injEq,ev];obtain ⟨n,rfl⟩:=il r0 r1;clear r0 r1;revert n;decide+kernel)
theorem Ap (r m:Int) (r0:0≤r) (r1:r≤15) (m0:0≤m) (m1:m≤15):aY Xh 138 ([av 192,aj r,aj m]) (av (bC r m)):=(N5 (d:= .int .u8 (YO.wrap YO.u8 (↑(Xm (Xf (8:Nat) (YO.wrap YO.u8 (↑(Xm (Xf (8:Nat) 192|||Xf (8:Nat) (YO.wrap YO.u8 (YO.wrap YO.u8 (↑(Xm (Xf (8:Nat) (YO.wrap YO.u8 r)&&&Xf (8:Nat) 7)):Int)*8)))):Int))|||Xf (8:Nat) (YO.wrap YO.u8 (↑(Xm (Xf (8:Nat) (YO.wrap YO.u8 m)&&&Xf (8:Nat) 7)):Int)))):Int))) []).to (by simp only [wk,D.int.injEq,ev];obtain ⟨n,rfl⟩:=il r0 r1;obtain ⟨k,rfl⟩:=il m0 m1;clear r0 r1 m0 m1;revert n k;decide+kernel)
theorem rk (r m:Int) (r0:0≤r) (r1:r≤15) (m0:0≤m) (m1:m≤15):aY Xh 138 ([av 128,aj r,aj m]) (av (128+8*(r%8)+m%8)):=(N5 (d:= .int .u8 (YO.wrap YO.u8 (↑(Xm (Xf (8:Nat) (YO.wrap YO.u8 (↑(Xm (Xf (8:Nat) 128|||Xf (8:Nat) (YO.wrap YO.u8 (YO.wrap YO.u8 (↑(Xm (Xf (8:Nat) (YO.wrap YO.u8 r)&&&Xf (8:Nat) 7)):Int)*8)))):Int))|||Xf (8:Nat) (YO.wrap YO.u8 (↑(Xm (Xf (8:Nat) (YO.wrap YO.u8 m)&&&Xf (8:Nat) 7)):Int)))):Int))) []).to (by simp only [wk,D.int.injEq,ev];obtain ⟨n,rfl⟩:=il r0 r1;obtain ⟨k,rfl⟩:=il m0 m1;clear r0 r1 m0 m1;revert n k;decide+kernel)
theorem bp (r m:Int) (r0:0≤r) (r1:r≤15) (m0:0≤m) (m1:m≤15):aY Xh 68 ([aj r,aj m]) (av (bC r m)):=(Qo (d:= .int .u8 (YO.wrap YO.u8 (YO.i64.wrap (YO.i64.wrap (192+YO.i64.wrap (8*YO.i64.wrap (YO.wrap YO.i8 (↑(Xm (Xf (8:Nat) r&&&Xf (8:Nat) 7)):Int))))+YO.i64.wrap (YO.wrap YO.i8 (↑(Xm (Xf (8:Nat) m&&&Xf (8:Nat) 7)):Int)))))) []).to (by simp only [wk,D.int.injEq,ev];obtain ⟨n,rfl⟩:=il r0 r1;obtain ⟨k,rfl⟩:=il m0 m1;clear r0 r1 m0 m1;revert n k;decide+kernel)
theorem yu (r m:Int) (r0:0≤r) (r1:r≤15) (m0:0≤m) (m1:m≤15) (hn:decide (8≤r∨8≤m)=true):aY Xh 104 ([aj r,aj m]) (ax true):=by
 have c0:= @dN r
 rw [show (aL r)=true from (@gO r r0 r1)] at c0
 have c1:= @dN m
 rw [show (aL m)=true from (@gO m m0 m1)] at c1
 exact (Oa (d:= .bool (YO.wrap YO.i8 (↑(Xm (Xf (8:Nat) (YO.wrap YO.i8 (↑(Xm (Xf (8:Nat) r|||Xf (8:Nat) m)):Int))&&&Xf (8:Nat) 8)):Int) !=0)) [aw c0,tT,tT,aw c1,tT,tT,tT,tT,tT,tT,tT]).to (by simp only [wk,D.bool.injEq];rw [CF r0 r1 m0 m1];exact hn)
theorem yv (r m:Int) (r0:0≤r) (r1:r≤15) (m0:0≤m) (m1:m≤15) (hn:decide (8≤r∨8≤m)=false):aY Xh 104 ([aj r,aj m]) (ax false):=by
 have c0:= @dN r
 rw [show (aL r)=true from (@gO r r0 r1)] at c0
 have c1:= @dN m
 rw [show (aL m)=true from (@gO m m0 m1)] at c1
 exact (Oa (d:= .bool (YO.wrap YO.i8 (↑(Xm (Xf (8:Nat) (YO.wrap YO.i8 (↑(Xm (Xf (8:Nat) r|||Xf (8:Nat) m)):Int))&&&Xf (8:Nat) 8)):Int) !=0)) [aw c0,tT,tT,aw c1,tT,tT,tT,tT,tT,tT,tT]).to (by simp only [wk,D.bool.injEq];rw [CF r0 r1 m0 m1];exact hn)
open Go Go.RowKit Go.Ev
set_option maxHeartbeats 4000000 in
theorem EA (v:Int) (h0: -2147483648≤v) (h1:v≤2147483647) (w:World):
  Calls Xh 139 #[.int .i64 v,.int .i64 4] w fun e w'=>e= .returned (.tuple #[.slice (some ⟨w.heap.size,0,none⟩) 4 4,.int .i64 0])∧
   w'=w.alloc (.cells #[.int .u8 (v%256),.int .u8 (v / 256%256),.int .u8 (v / 65536%256),.int .u8 (v / 16777216%256)] 5):=by
 have Tz:∀w,(Instr.makeSlice 22 (.int .i64 4) (.int .i64 4)).run Xh w= .ok (.slice (some ⟨w.heap.size,0,none⟩) 4 4) (w.alloc (.cells #[.int .u8 0,.int .u8 0,.int .u8 0,.int .u8 0] 5)):=fun _=>by kernel_rfl
 go_enter Tryz.func139,Tryz.ntmps139
 go_wp2
 refine wp_loop_rounds 5 ?_
 rw [rounds_succ];go_wp2
 rw [rounds_succ];go_wp2
 rw [rounds_succ];go_wp2
 rw [rounds_succ];go_wp2
 rw [rounds_succ];go_wp2
 go_ret2
 exact ⟨rfl,rfl⟩
theorem FH {C:Nat→Nat→Option Value} {w:World} (hC:∀b o v,C b o=some v→w.cell? ⟨b,o,none⟩=some v) (cells:Array Value) (ty:TypeId):
  Ext (gn C) w (gn fun b o=>if b=w.heap.size then cells[o]? else C b o) (w.alloc (.cells cells ty)):=by
 have QQ:∀b o v,C b o=some v→b<w.heap.size:=fun b o v h=>World.block_lt_of_cell? w _ (hC b o v h)
 refine ⟨(Below.refl _ _).alloc (Nat.le_refl _) _,?_,?_,?_⟩
 ·intro b o v h
  have:=QQ b o v h
  show (if b=w.heap.size then cells[o]? else C b o)=some v
  rw [if_neg (by omega)]
  exact h
 ·intro b o v h hb
  have h':(if b=w.heap.size then cells[o]? else C b o)=some v:=h
  rw [if_neg (by omega)] at h'
  exact h'
 ·intro b o v h
  have h':(if b=w.heap.size then cells[o]? else C b o)=some v:=h
  split at h'
  ·rename_i e
   subst e
   have hh:(w.alloc (.cells cells ty)).heap[w.heap.size]? =some (.cells cells ty):=by
    show (w.heap.push _)[w.heap.size]? =_
    simp
   simp only [World.cell?,hh]
   exact h'
  ·have hb:=QQ b o v h'
   rw [World.cell?_alloc_lt _ _ _ hb]
   exact hC b o v h'
theorem Kk {C:Nat→Nat→Option Value} {b:Nat} {k:YO} (xs:List Int) (cells:Array Value) (hc:cells=(xs.map fun n=>Value.int k n).toArray):
  cz (gn fun b' o=>if b'=b then cells[o]? else C b' o) (.bc .tight 1 (xs.map fun n=> .int k n)) (.slice (some ⟨b,0,none⟩) xs.length xs.length):=by
 subst hc
 have key:∀(i:Nat) (x:D) (cs:List D) (j:Nat) (c:D),(xs.map fun n=>D.int k n)[i]? =some x→x.cells=some cs→cs[j]? =some c→∃n,xs[i]? =some n∧c= .int k n∧j=0:=by
  intro i x cs j c h1 h2 h3
  rw [XH,Option.map_eq_some_iff] at h1
  obtain ⟨n,hn,rfl⟩:=h1
  simp only [D.cells,Option.some.injEq] at h2
  subst h2
  cases j with
  |zero=>simp at h3;exact ⟨n,hn,h3.symm,rfl⟩
  |succ j=>simp at h3
 refine .bc b 0 (fun i _=> .int k (xs.getD i 0)) (by simp) (Nat.le_refl _) (fun _=>rfl) ?_ ?_ ?_ ?_ rfl
 ·intro i x hx
  rw [XH,Option.map_eq_some_iff] at hx
  obtain ⟨n,hn,rfl⟩:=hx
  exact ⟨[.int k n],rfl,rfl⟩
 ·intro i x cs j c h1 h2 h3
  obtain ⟨n,hn,rfl,rfl⟩:=key i x cs j c h1 h2 h3
  simp [gn,hn]
 ·intro i x cs j c h1 h2 h3
  obtain ⟨n,hn,rfl,rfl⟩:=key i x cs j c h1 h2 h3
  simp only [List.getD_eq_getElem?_getD,hn,Option.getD_some]
  exact .int k n
 ·intro i x cs c h1 h2 h3
  rw [XH,Option.map_eq_some_iff] at h1
  obtain ⟨n,hn,rfl⟩:=h1
  simp only [D.cells,Option.some.injEq] at h2
  subst h2
  simp at h3
  subst h3
  rfl
theorem CD (v:Int) (h0: -2147483648≤v) (h1:v≤2147483647):aY Xh 139 [ao v,ao 4] (.aQ [.bc .tight 1 [av (v%256),av (v / 256%256),av (v / 65536%256),av (v / 16777216%256)],ao 0]):=by
 refine ⟨⟨_,_,Tryz.func139,rfl,by kernel_rfl⟩,fun w C vs hC ha=> ?_⟩
 obtain ⟨hl,hr⟩:=ha
 obtain ⟨a,b,rfl⟩:∃a b,vs= #[a,b]:=by
  rcases vs with ⟨l⟩
  match l,hl with
  | [a,b],_=>exact ⟨a,b,rfl⟩
 have ra:=hr 0 _ a rfl rfl
 have rb:=hr 1 _ b rfl rfl
 cases ra
 cases rb
 refine Calls.mono (EA v h0 h1 w) ?_
 rintro e w' ⟨rfl,rfl⟩
 have rl:=Kk (C:=C) (b:=w.heap.size) (k:= .u8) [v%256,v / 256%256,v / 65536%256,v / 16777216%256] _ rfl
 refine ⟨_,_,rfl,FH hC _ _,.aQ rfl ?_,?_⟩
 ·intro i d u p q
  match i,p,q with
  |0,p,q=>simp at p q;subst p q;exact rl
  |1,p,q=>simp at p q;subst p q;exact .int _ _
 ·refine ⟨fun sz Ra xs h=>(by cases h),?_⟩
  intro ds vs hd hv i sz Ra xs hi
  simp only [D.aQ.injEq] at hd
  subst hd
  match i,hi with
  |0,hi=>simp at hi
  |1,hi=>simp at hi
theorem pg (r m:Int) (r0:0≤r) (r1:r≤15) (m0:0≤m) (m1:m≤15):aY Xh 105 ([ax false,aj r,aj m]) (.aQ [av (dm false r m),ao 0]):=by
 have c0:= @dN r
 rw [show (aL r)=true from (@gO r r0 r1)] at c0
 have c1:= @dN m
 rw [show (aL m)=true from (@gO m m0 m1)] at c1
 have c2:= @tH r r0 r1
 have c3:= @tI m m0 m1
 exact (N9 (d:= .aQ [av (YO.wrap YO.u8 (↑(Xm (Xf (8:Nat) (YO.wrap YO.u8 (↑(Xm (Xf (8:Nat) 64|||Xf (8:Nat) (4*(r / 8)))):Int))|||Xf (8:Nat) (m / 8))):Int)),ao 0]) [aw c0,tT,tT,aw c1,tT,tF,tF,aw c2,aw c3,tF]).to (by simp only [aI,D.int.injEq,ev,fS];exact Hr r0 r1 m0 m1)
theorem tJ (r m:Int) (r0:0≤r) (r1:r≤15) (m0:0≤m) (m1:m≤15):aY Xh 105 ([ax true,aj r,aj m]) (.aQ [av (dm true r m),ao 0]):=by
 have c0:= @dN r
 rw [show (aL r)=true from (@gO r r0 r1)] at c0
 have c1:= @dN m
 rw [show (aL m)=true from (@gO m m0 m1)] at c1
 have c2:= @tH r r0 r1
 have c3:= @tI m m0 m1
 exact (N9 (d:= .aQ [av (YO.wrap YO.u8 (↑(Xm (Xf (8:Nat) (YO.wrap YO.u8 (↑(Xm (Xf (8:Nat) (YO.wrap YO.u8 (↑(Xm (Xf (8:Nat) 64|||Xf (8:Nat) (4*(r / 8)))):Int))|||Xf (8:Nat) (m / 8))):Int))|||Xf (8:Nat) 8)):Int)),ao 0]) [aw c0,tT,tT,aw c1,tT,tF,tF,aw c2,aw c3,tT]).to (by simp only [aI,D.int.injEq,ev,fS];exact Hq r0 r1 m0 m1)
theorem IK (r m:Int) (r0:0≤r) (r1:r≤15) (m0:0≤m) (m1:m≤15):aY Xh 106 ([aj r,aj m]) (.aQ [.bc .tight 1 [av (bC r m)],ao 0]):=by
 have c0:= @dN r
 rw [show (aL r)=true from (@gO r r0 r1)] at c0
 have c1:= @dN m
 rw [show (aL m)=true from (@gO m m0 m1)] at c1
 have c2:= @Ap r m r0 r1 m0 m1
 generalize g4:bC r m=r3 at c2
 exact (Pp (d:= .aQ [.bc .tight 1 [av r3],ao 0]) [aw c0,tT,tT,aw c1,tT,tF,tF,aw c2]).to (by subst_vars;simp [aI,cT])
theorem gm (r b af:Int) (r0:0≤r) (r1:r≤15) (m0:0≤b) (m1:b≤15) (h0: -2147483648≤af) (h1:af≤2147483647) (hb:decide (b%8=4)=true):aY Xh 108 ([aj r,aj b,ao af]) (.aQ [aZ 1 [av (128+8*(r%8)+b%8),av 36,av (af%256),av (af / 256%256),av (af / 65536%256),av (af / 16777216%256)],ao 0]):=by
 have c0:= @CD af h0 h1
 have c1:= @dN r
 rw [show (aL r)=true from (@gO r r0 r1)] at c1
 have c2:= @dN b
 rw [show (aL b)=true from (@gO b m0 m1)] at c2
 have c3:= @rk r b r0 r1 m0 m1
 exact (N8 (d:= .aQ [.bc (.fresh 1) 1 [av (128+8*(r%8)+b%8),av 36,av (af%256),av (af / 256%256),av (af / 65536%256),av (af / 16777216%256)],ao 0]) [aw c0,tT,tT,aw c1,tT,tF,tT,tT,aw c2,tT,tF,tF,tC (cP 4 true (eq_of_beq (@LL b hb))),aw c3,aW,.go 64,tT,tT,bQ 1,tT,tT,bQ 2,tT,tT,bQ 6,tF]).to (by subst_vars;simp [aI,cT])
theorem gl (r b af:Int) (r0:0≤r) (r1:r≤15) (m0:0≤b) (m1:b≤15) (h0: -2147483648≤af) (h1:af≤2147483647) (hb:decide (b%8=4)=false):aY Xh 108 ([aj r,aj b,ao af]) (.aQ [aZ 1 [av (128+8*(r%8)+b%8),av (af%256),av (af / 256%256),av (af / 65536%256),av (af / 16777216%256)],ao 0]):=by
 have c0:= @CD af h0 h1
 have c1:= @dN r
 rw [show (aL r)=true from (@gO r r0 r1)] at c1
 have c2:= @dN b
 rw [show (aL b)=true from (@gO b m0 m1)] at c2
 have c3:= @rk r b r0 r1 m0 m1
 exact (N8 (d:= .aQ [.bc (.fresh 1) 1 [av (128+8*(r%8)+b%8),av (af%256),av (af / 256%256),av (af / 65536%256),av (af / 16777216%256)],ao 0]) [aw c0,tT,tT,aw c1,tT,tF,tT,tT,aw c2,tT,tF,tF,tC (@LM b hb),aw c3,aW,.go 64,tT,tT,bQ 1,tT,tT,bQ 1,tT,tT,bQ 5,tF]).to (by subst_vars;simp [aI,cT])
theorem fN (r m:Int) (r0:0≤r) (r1:r≤15) (m0:0≤m) (m1:m≤15) (wide al:Bool) (hn:bX wide r m al=false):aY Xh 75 ([ax wide,aj r,aj m,ax al]) (.bc .tight 1 []):=by
 cases wide
 ·cases al
  ·have c0:= @yv r m r0 r1 m0 m1 hn
   exact (NA (d:= .bc .tight 0 []) [tT,tT,tT,tT,tT,tT,aw c0,tT,tT,tT]).to (by first|(simp [aI,cT];done)|(exfalso;simp [bX] at hn))
  have c1:= @pg r m r0 r1 m0 m1
  generalize g3:dm false r m=r2 at c1
  exact (NA (d:= .bc .tight 1 [av r2]) (bK 9 7++ [aw c1])).to (by first|(simp [aI,cT];done)|(exfalso;simp [bX] at hn))
 have c4:= @tJ r m r0 r1 m0 m1
 generalize g6:dm true r m=r5 at c4
 exact (NA (d:= .bc .tight 1 [av r5]) (Xg 9 tF++ [aw c4])).to (by first|(simp [aI,cT];done)|(exfalso;simp [bX] at hn))
theorem eM (r m:Int) (r0:0≤r) (r1:r≤15) (m0:0≤m) (m1:m≤15) (wide al:Bool) (hn:bX wide r m al=true):aY Xh 75 ([ax wide,aj r,aj m,ax al]) (.bc .tight 1 [av (dm wide r m)]):=by
 cases wide
 ·cases al
  ·have c0:= @yu r m r0 r1 m0 m1 hn
   have c1:= @pg r m r0 r1 m0 m1
   generalize g3:dm false r m=r2 at c1
   exact (NA (d:= .bc .tight 1 [av r2]) [tT,tT,tT,tT,tT,tT,aw c0,tT,tT,tF,aw c1]).to (by subst_vars;first|(simp [aI,cT];done)|(exfalso;simp [bX] at hn;omega))
  have c4:= @pg r m r0 r1 m0 m1
  generalize g6:dm false r m=r5 at c4
  exact (NA (d:= .bc .tight 1 [av r5]) (bK 9 7++ [aw c4])).to (by subst_vars;first|(simp [aI,cT];done)|(exfalso;simp [bX] at hn;omega))
 have c7:= @tJ r m r0 r1 m0 m1
 generalize g9:dm true r m=r8 at c7
 exact (NA (d:= .bc .tight 1 [av r8]) (Xg 9 tF++ [aw c7])).to (by subst_vars;first|(simp [aI,cT];done)|(exfalso;simp [bX] at hn;omega))
theorem jk (r m:Int) (r0:0≤r) (r1:r≤15) (m0:0≤m) (m1:m≤15):aY Xh 76 ([aj r,aj m]) (.bc .tight 1 [av (bC r m)]):=by
 have c0:= @IK r m r0 r1 m0 m1
 generalize g2:bC r m=r1 at c0
 exact (Qm (d:= .bc .tight 1 [av r1]) [aw c0]).to (by subst_vars;simp [aI,cT])
theorem lC (n:Int):aY Xh 77 ([ao n]) (aZ 1 [av (n%256),av (n / 256%256),av (n / 65536%256),av (n / 16777216%256)]):=(Ql (d:= .bc (.fresh 1) 1 [av (YO.wrap YO.u8 (YO.wrap YO.u64 n)),av (YO.wrap YO.u8 (Xq (YO.wrap YO.u64 n) 256)),av (YO.wrap YO.u8 (Xq (Xq (YO.wrap YO.u64 n) 256) 256)),av (YO.wrap YO.u8 (Xq (Xq (Xq (YO.wrap YO.u64 n) 256) 256) 256))]) [aW,.go 64,tT,bQ 1,tT,bQ 2,tT,bQ 3,tT,bQ 4,tF]).to (by simp only [aI,cT,D.int.injEq,D.bc.injEq,List.cons.injEq,ev,fS,bF,dt,true_or,P5,L6,CW,sg];first|done|omega|(simp;omega))
theorem dV (n:Int):aY Xh 69 ([aB (n%18446744073709551616),ao 4]) (aZ 1 [av (n%256),av (n / 256%256),av (n / 65536%256),av (n / 16777216%256)]):=(Qn (d:= .bc (.fresh 1) 1 [av (YO.wrap YO.u8 (Xq (n%18446744073709551616) 1)),av (YO.wrap YO.u8 (Xq (n%18446744073709551616) 256)),av (YO.wrap YO.u8 (Xq (n%18446744073709551616) 65536)),av (YO.wrap YO.u8 (Xq (n%18446744073709551616) 16777216))]) [.go 64,tT,tT,bQ 1,tT,tT,bQ 2,tT,tT,bQ 3,tT,tT,bQ 4,tF]).to (by simp only [aI,cT,D.int.injEq,D.bc.injEq,List.cons.injEq,ev,fS,bF,dt,true_or,P5,L6,CW,sg];first|done|omega|(simp;omega))
theorem BH (op w ab ae aa af aq cc:Int) (ho:op≤127) (d0:0≤ab) (d1:ab≤15) (s0:0≤ae) (s1:ae≤15) (b0:0≤aa) (b1:aa≤15) (p0: -2147483648≤af) (p1:af≤2147483647) (i0: -2147483648≤aq) (i1:aq≤2147483647) (c0:0≤cc) (c1:cc≤15) (n0:0≤bW op) (n1:bW op≤7) (h:(aF op==1)=true) (Q4:decide (0≤op∧op≤31)=true) (hm:a8 op w ab ae aa af aq cc=true):aY Xh 43 ([xD op w ab ae aa af aq cc]) (.aQ [aZ 1 (bD (aN op w ab ae aa af aq cc)),ao 0]):=by
 have c0:= @bm op w ab ae aa af aq cc ho
 rw [hm] at c0
 have c1:= @dr op ho
 rw [eq_of_beq h] at c1
 generalize g3:bq op=r2 at c1
 generalize g5:bW op=r4 at c1
 rcases cQ (bX (w==64) ae ab false) with h6|h6
 ·have c7:= @eM ae ab s0 s1 d0 d1 (w==64) false h6
  generalize g9:dm (w==64) ae ab=r8 at c7
  have QS:= @jk ae ab s0 s1 d0 d1
  generalize g12:bC ae ab=Rf at QS
  exact (kD (d:= .aQ [.bc (.fresh 1) 1 [av r8,av r2,av Rf],ao 0]) [aw c0,tF,aw c1,tT,aw c7,aw QS,aW,.go 64,tT,tT,bQ 1,tT,tT,bQ 2,tT,tT,bQ 3,tF]).to (by subst_vars;(try simp only [aX] at*);(try simp only [ck] at h);(try simp only [bP,cq] at*);simp_all [aI,cT,aN,bD,bw,bI,bf,bF])
 have Q8:= @fN ae ab s0 s1 d0 d1 (w==64) false h6
 have RB:= @jk ae ab s0 s1 d0 d1
 generalize g16:bC ae ab=Tv at RB
 exact (kD (d:= .aQ [.bc (.fresh 1) 1 [av r2,av Tv],ao 0]) [aw c0,tF,aw c1,tT,aw Q8,aw RB,aW,.go 64,tT,tT,bQ 0,tT,tT,bQ 1,tT,tT,bQ 2,tF]).to (by subst_vars;(try simp only [aX] at*);(try simp only [ck] at h);(try simp only [bP,cq] at*);simp_all [aI,cT,aN,bD,bw,bI,bf,bF])
theorem w9 (w ab ae aa af aq cc:Int) (d0:0≤ab) (d1:ab≤15) (s0:0≤ae) (s1:ae≤15) (b0:0≤aa) (b1:aa≤15) (p0: -2147483648≤af) (p1:af≤2147483647) (i0: -2147483648≤aq) (i1:aq≤2147483647) (c0:0≤cc) (c1:cc≤15) (hm:a8 16 w ab ae aa af aq cc=true):aY Xh 43 ([xD 16 w ab ae aa af aq cc]) (.aQ [aZ 1 (bD (aN 16 w ab ae aa af aq cc)),ao 0]):=by
 have c0:= @bm 16 w ab ae aa af aq cc (by decide)
 rw [hm] at c0
 have c1:= @dr 16 (by decide)
 rcases cQ (bX (w==64) ab ae false) with h2|h2
 ·have c3:= @eM ab ae d0 d1 s0 s1 (w==64) false h2
  generalize g5:dm (w==64) ab ae=r4 at c3
  have c6:= @jk ab ae d0 d1 s0 s1
  generalize g8:bC ab ae=r7 at c6
  exact (kD (d:= .aQ [.bc (.fresh 1) 1 [av r4,av 15,av 175,av r7],ao 0]) [aw c0,tF,aw c1,tF,tT,aw c3,aw c6,aW,.go 64,tT,tT,bQ 1,tT,tT,bQ 2,tT,tT,bQ 3,tT,tT,bQ 4,tF]).to (by subst_vars;(try simp only [aX] at*);(try simp only [ck] at h);(try simp only [bP,cq] at*);simp_all [aI,cT,aN,show aF 16=2 from rfl,bq,bD,bw,bI,bf,bF])
 have c9:= @fN ab ae d0 d1 s0 s1 (w==64) false h2
 have QS:= @jk ab ae d0 d1 s0 s1
 generalize g12:bC ab ae=Rf at QS
 exact (kD (d:= .aQ [.bc (.fresh 1) 1 [av 15,av 175,av Rf],ao 0]) [aw c0,tF,aw c1,tF,tT,aw c9,aw QS,aW,.go 64,tT,tT,bQ 0,tT,tT,bQ 1,tT,tT,bQ 2,tT,tT,bQ 3,tF]).to (by subst_vars;(try simp only [aX] at*);(try simp only [ck] at h);(try simp only [bP,cq] at*);simp_all [aI,cT,aN,show aF 16=2 from rfl,bq,bD,bw,bI,bf,bF])
theorem BE (op w ab ae aa af aq cc:Int) (ho:op≤127) (d0:0≤ab) (d1:ab≤15) (s0:0≤ae) (s1:ae≤15) (b0:0≤aa) (b1:aa≤15) (p0: -2147483648≤af) (p1:af≤2147483647) (i0: -2147483648≤aq) (i1:aq≤2147483647) (c0:0≤cc) (c1:cc≤15) (n0:0≤bW op) (n1:bW op≤7) (h:(aF op==5)=true) (Q4:decide (0≤op∧op≤31)=true) (hm:a8 op w ab ae aa af aq cc=true):aY Xh 43 ([xD op w ab ae aa af aq cc]) (.aQ [aZ 1 (bD (aN op w ab ae aa af aq cc)),ao 0]):=by
 have c0:= @bm op w ab ae aa af aq cc ho
 rw [hm] at c0
 have c1:= @dr op ho
 rw [eq_of_beq h] at c1
 generalize g3:bq op=r2 at c1
 generalize g5:bW op=r4 at c1
 rcases cQ (bX (w==64) 0 ab false) with h6|h6
 ·have c7:= @eM 0 ab (by decide) (by decide) d0 d1 (w==64) false h6
  generalize g9:dm (w==64) 0 ab=r8 at c7
  have QS:= @jk r4 ab (by (simp only [cY] at*;omega)) (by (simp only [cY] at*;omega)) d0 d1
  generalize g12:bC r4 ab=Rf at QS
  exact (kD (d:= .aQ [.bc (.fresh 1) 1 [av r8,av r2,av Rf],ao 0]) [aw c0,tF,aw c1,tF,tF,tF,tF,tF,tT,aw c7,aw QS,aW,.go 64,tT,tT,bQ 1,tT,tT,bQ 2,tT,tT,bQ 3,tF]).to (by subst_vars;(try simp only [aX] at*);(try simp only [ck] at h);(try simp only [bP,cq] at*);simp_all [aI,cT,aN,bD,bw,bI,bf,bF])
 have Q8:= @fN 0 ab (by decide) (by decide) d0 d1 (w==64) false h6
 have RB:= @jk r4 ab (by (simp only [cY] at*;omega)) (by (simp only [cY] at*;omega)) d0 d1
 generalize g16:bC r4 ab=Tv at RB
 exact (kD (d:= .aQ [.bc (.fresh 1) 1 [av r2,av Tv],ao 0]) [aw c0,tF,aw c1,tF,tF,tF,tF,tF,tT,aw Q8,aw RB,aW,.go 64,tT,tT,bQ 0,tT,tT,bQ 1,tT,tT,bQ 2,tF]).to (by subst_vars;(try simp only [aX] at*);(try simp only [ck] at h);(try simp only [bP,cq] at*);simp_all [aI,cT,aN,bD,bw,bI,bf,bF])
theorem BF (op w ab ae aa af aq cc:Int) (ho:op≤127) (d0:0≤ab) (d1:ab≤15) (s0:0≤ae) (s1:ae≤15) (b0:0≤aa) (b1:aa≤15) (p0: -2147483648≤af) (p1:af≤2147483647) (i0: -2147483648≤aq) (i1:aq≤2147483647) (c0:0≤cc) (c1:cc≤15) (n0:0≤bW op) (n1:bW op≤7) (h:(aF op==4)=true) (Q4:decide (0≤op∧op≤31)=true) (hm:a8 op w ab ae aa af aq cc=true):aY Xh 43 ([xD op w ab ae aa af aq cc]) (.aQ [aZ 1 (bD (aN op w ab ae aa af aq cc)),ao 0]):=by
 have c0:= @bm op w ab ae aa af aq cc ho
 rw [hm] at c0
 have c1:= @dr op ho
 rw [eq_of_beq h] at c1
 generalize g3:bq op=r2 at c1
 generalize g5:bW op=r4 at c1
 rcases cQ (bX (w==64) 0 ab false) with h6|h6
 ·have c7:= @eM 0 ab (by decide) (by decide) d0 d1 (w==64) false h6
  generalize g9:dm (w==64) 0 ab=r8 at c7
  have QS:= @jk r4 ab (by (simp only [cY] at*;omega)) (by (simp only [cY] at*;omega)) d0 d1
  generalize g12:bC r4 ab=Rf at QS
  exact (kD (d:= .aQ [.bc (.fresh 1) 1 [av r8,av r2,av Rf,av (YO.u8.wrap aq)],ao 0]) [aw c0,tF,aw c1,tF,tF,tF,tF,tT,aw c7,aw QS,aW,.go 64,tT,tT,bQ 1,tT,tT,bQ 2,tT,tT,bQ 3,tT,tT,bQ 4,tF]).to (by (try rw [oa d0 d1]);(subst_vars;(try simp only [aX] at*);(try simp only [ck] at h);(try simp only [bP,cq] at*);simp_all [aI,cT,aN,bD,bw,bI,bf,bF];done))
 have Q8:= @fN 0 ab (by decide) (by decide) d0 d1 (w==64) false h6
 have RB:= @jk r4 ab (by (simp only [cY] at*;omega)) (by (simp only [cY] at*;omega)) d0 d1
 generalize g16:bC r4 ab=Tv at RB
 exact (kD (d:= .aQ [.bc (.fresh 1) 1 [av r2,av Tv,av (YO.u8.wrap aq)],ao 0]) [aw c0,tF,aw c1,tF,tF,tF,tF,tT,aw Q8,aw RB,aW,.go 64,tT,tT,bQ 0,tT,tT,bQ 1,tT,tT,bQ 2,tT,tT,bQ 3,tF]).to (by (try rw [oa d0 d1]);(subst_vars;(try simp only [aX] at*);(try simp only [ck] at h);(try simp only [bP,cq] at*);simp_all [aI,cT,aN,bD,bw,bI,bf,bF];done))
theorem BG (op w ab ae aa af aq cc:Int) (ho:op≤127) (d0:0≤ab) (d1:ab≤15) (s0:0≤ae) (s1:ae≤15) (b0:0≤aa) (b1:aa≤15) (p0: -2147483648≤af) (p1:af≤2147483647) (i0: -2147483648≤aq) (i1:aq≤2147483647) (c0:0≤cc) (c1:cc≤15) (n0:0≤bW op) (n1:bW op≤7) (h:(aF op==3)=true) (Q4:decide (0≤op∧op≤31)=true) (hw:w=32∨w=64) (hm:a8 op w ab ae aa af aq cc=true):aY Xh 43 ([xD op w ab ae aa af aq cc]) (.aQ [aZ 1 (bD (aN op w ab ae aa af aq cc)),ao 0]):=by
 have c0:= @bm op w ab ae aa af aq cc ho
 rw [hm] at c0
 have c1:= @dr op ho
 rw [eq_of_beq h] at c1
 generalize g3:bq op=r2 at c1
 generalize g5:bW op=r4 at c1
 let E1:EL:= [aw c0,tF,aw c1,tF,tF,tF,tT]
 by_cases h6:op=1
 ·subst h6
  by_cases h7:w=64
  ·subst h7
   have c8:= @eM 0 ab n0 (by decide) d0 d1 true false (rfl:true=true)
   generalize g10:dm true 0 ab=r9 at c8
   have Rc:= @jk r4 ab (by (simp only [cY] at*;omega)) (by (simp only [cY] at*;omega)) d0 d1
   generalize g13:bC r4 ab=TL at Rc
   have RB:= @lC aq
   exact (kD (d:= .aQ [.bc (.fresh 1) 1 [av r9,av r2,av TL,av (aq%256),av (aq / 256%256),av (aq / 65536%256),av (aq / 16777216%256)],ao 0]) (E1++ [tT,tT,tT,tF,aw c8,aw Rc,aw RB,aW,.go 64,tT,tT,bQ 1,tT,tT,bQ 2,tT,tT,bQ 3,tT,tT,bQ 7,tF])).to (by clear E1;(try rw [oa d0 d1]);(subst_vars;(try simp only [aX] at*);(try simp only [ck] at h);(try simp only [bP,cq] at*);simp_all [aI,cT,aN,bD,bw,bI,bf,bF,bX];done))
  rcases cQ (bX false 0 ab false) with h15|h15
  ·have Q9:= @eM 0 ab n0 (by decide) d0 d1 false false h15
   generalize g18:dm false 0 ab=r17 at Q9
   have RO:= @lC aq
   exact (kD (d:= .aQ [.bc (.fresh 1) 1 [av r17,av (YO.u8.wrap (↑(Xm (Xf 8 184|||Xf 8 (YO.u8.wrap (YO.i8.wrap (↑(Xm (Xf 8 ab&&&Xf 8 7)):Int))))):Int)),av (aq%256),av (aq / 256%256),av (aq / 65536%256),av (aq / 16777216%256)],ao 0]) (E1++ [tT,tT,tT,tC (nt (aH h7)),aw Q9,aw RO,aW,.go 64,tT,tT,bQ 1,tT,tT,bQ 2,tT,tT,bQ 6,tF])).to (by clear E1;(try rw [oa d0 d1]);(subst_vars;(try simp only [aX] at*);(try simp only [ck] at h);(try simp only [bP,cq] at*);simp_all [aI,cT,aN,bD,bw,bI,bf,bF];done))
  have Te:= @fN 0 ab n0 (by decide) d0 d1 false false h15
  have Tq:= @lC aq
  exact (kD (d:= .aQ [.bc (.fresh 1) 1 [av (YO.u8.wrap (↑(Xm (Xf 8 184|||Xf 8 (YO.u8.wrap (YO.i8.wrap (↑(Xm (Xf 8 ab&&&Xf 8 7)):Int))))):Int)),av (aq%256),av (aq / 256%256),av (aq / 65536%256),av (aq / 16777216%256)],ao 0]) (E1++ [tT,tT,tT,tC (nt (aH h7)),aw Te,aw Tq,aW,.go 64,tT,tT,bQ 0,tT,tT,bQ 1,tT,tT,bQ 5,tF])).to (by clear E1;(try rw [oa d0 d1]);(subst_vars;(try simp only [aX] at*);(try simp only [ck] at h);(try simp only [bP,cq] at*);simp_all [aI,cT,aN,bD,bw,bI,bf,bF];done))
 rcases cQ (bX (w==64) 0 ab false) with h22|h22
 ·have RS:= @eM 0 ab (by decide) (by decide) d0 d1 (w==64) false h22
  generalize g25:dm (w==64) 0 ab=r24 at RS
  have SO:= @jk r4 ab (by (simp only [cY] at*;omega)) (by (simp only [cY] at*;omega)) d0 d1
  generalize g28:bC r4 ab=r27 at SO
  have VU:= @lC aq
  exact (kD (d:= .aQ [.bc (.fresh 1) 1 [av r24,av r2,av r27,av (aq%256),av (aq / 256%256),av (aq / 65536%256),av (aq / 16777216%256)],ao 0]) (E1++ [tC (eT (aH h6)),tC (eT (aH h6)),tC (aH h6),tF,aw RS,aw SO,aw VU,aW,.go 64,tT,tT,bQ 1,tT,tT,bQ 2,tT,tT,bQ 3,tT,tT,bQ 7,tF])).to (by clear E1;(try rw [oa d0 d1]);(subst_vars;(try simp only [aX] at*);(try simp only [ck] at h);(try simp only [bP,cq] at*);simp_all [aI,cT,aN,bD,bw,bI,bf,bF];done))
 have Tj:= @fN 0 ab (by decide) (by decide) d0 d1 (w==64) false h22
 have S5:= @jk r4 ab (by (simp only [cY] at*;omega)) (by (simp only [cY] at*;omega)) d0 d1
 generalize g33:bC r4 ab=r32 at S5
 have V4:= @lC aq
 exact (kD (d:= .aQ [.bc (.fresh 1) 1 [av r2,av r32,av (aq%256),av (aq / 256%256),av (aq / 65536%256),av (aq / 16777216%256)],ao 0]) (E1++ [tC (eT (aH h6)),tC (eT (aH h6)),tC (aH h6),tF,aw Tj,aw S5,aw V4,aW,.go 64,tT,tT,bQ 0,tT,tT,bQ 1,tT,tT,bQ 2,tT,tT,bQ 6,tF])).to (by clear E1;(try rw [oa d0 d1]);(subst_vars;(try simp only [aX] at*);(try simp only [ck] at h);(try simp only [bP,cq] at*);simp_all [aI,cT,aN,bD,bw,bI,bf,bF];done))
theorem w8 (w ab ae aa af aq cc:Int) (d0:0≤ab) (d1:ab≤15) (s0:0≤ae) (s1:ae≤15) (b0:0≤aa) (b1:aa≤15) (p0: -2147483648≤af) (p1:af≤2147483647) (i0: -2147483648≤aq) (i1:aq≤2147483647) (c0:0≤cc) (c1:cc≤15) (hm:a8 25 w ab ae aa af aq cc=true):aY Xh 43 ([xD 25 w ab ae aa af aq cc]) (.aQ [aZ 1 (bD (aN 25 w ab ae aa af aq cc)),ao 0]):=by
 have c0:= @bm 25 w ab ae aa af aq cc (by decide)
 rw [hm] at c0
 have c1:= @dr 25 (by decide)
 rcases cQ (bX (w==64) ab ae false) with h2|h2
 ·have c3:= @eM ab ae d0 d1 s0 s1 (w==64) false h2
  generalize g5:dm (w==64) ab ae=r4 at c3
  have c6:= @jk ab ae d0 d1 s0 s1
  generalize g8:bC ab ae=r7 at c6
  exact (kD (d:= .aQ [.bc (.fresh 1) 1 [av r4,av 15,av (YO.u8.wrap (64+YO.u8.wrap cc)),av r7],ao 0]) [aw c0,tF,aw c1,tF,tF,tT,aw c3,aw c6,aW,.go 64,tT,tT,bQ 1,tT,tT,bQ 3,tT,tT,bQ 4,tF]).to (by (try rw [oa d0 d1]);(subst_vars;(try simp only [aX] at*);(try simp only [ck] at h);(try simp only [bP,cq] at*);simp_all [aI,cT,aN,bD,bw,bI,bf,bF,bX,bq,bW,aF];omega))
 have c9:= @fN ab ae d0 d1 s0 s1 (w==64) false h2
 have QS:= @jk ab ae d0 d1 s0 s1
 generalize g12:bC ab ae=Rf at QS
 exact (kD (d:= .aQ [.bc (.fresh 1) 1 [av 15,av (YO.u8.wrap (64+YO.u8.wrap cc)),av Rf],ao 0]) [aw c0,tF,aw c1,tF,tF,tT,aw c9,aw QS,aW,.go 64,tT,tT,bQ 0,tT,tT,bQ 2,tT,tT,bQ 3,tF]).to (by (try rw [oa d0 d1]);(subst_vars;(try simp only [aX] at*);(try simp only [ck] at h);(try simp only [bP,cq] at*);simp_all [aI,cT,aN,bD,bw,bI,bf,bF,bq,bW,aF];omega))
theorem w7 (w ab ae aa af aq cc:Int) (d0:0≤ab) (d1:ab≤15) (s0:0≤ae) (s1:ae≤15) (b0:0≤aa) (b1:aa≤15) (p0: -2147483648≤af) (p1:af≤2147483647) (i0: -2147483648≤aq) (i1:aq≤2147483647) (c0:0≤cc) (c1:cc≤15) (hm:a8 26 w ab ae aa af aq cc=true):aY Xh 43 ([xD 26 w ab ae aa af aq cc]) (.aQ [aZ 1 (bD (aN 26 w ab ae aa af aq cc)),ao 0]):=by
 have c0:= @bm 26 w ab ae aa af aq cc (by decide)
 rw [hm] at c0
 have c1:= @dr 26 (by decide)
 let E1:EL:= [aw c0,tF,aw c1,tF,tF,tF,tF,tF,tF,tT]
 by_cases h2:w=8
 ·subst h2
  rcases cQ (bX false ab aa false) with h3|h3
  ·have c4:= @eM ab aa d0 d1 b0 b1 false false h3
   generalize g6:dm false ab aa=r5 at c4
   rcases cQ (decide (aa%8=4)) with h7|h7
   ·have c8:= @gm ab aa af d0 d1 b0 b1 p0 p1 h7
    exact (kD (d:= .aQ [.bc (.fresh 1) 1 [av r5,av 15,av 182,av (128+8*(ab%8)+aa%8),av 36,av (af%256),av (af / 256%256),av (af / 65536%256),av (af / 16777216%256)],ao 0]) (E1++ [tT,aw c4,aW,aw c8,aW,.go 64,tT,tT,bQ 1,tT,tT,bQ 3,tT,tT,bQ 9,tF])).to (by clear E1;subst_vars;(try simp only [aX] at*);(try simp only [ck] at h);(try simp only [bP,cq] at*);simp_all [aI,cT,aN,show aF 26=7 from rfl,bq,bD,bw,bI,bf,bF])
   have c9:= @gl ab aa af d0 d1 b0 b1 p0 p1 h7
   exact (kD (d:= .aQ [.bc (.fresh 1) 1 [av r5,av 15,av 182,av (128+8*(ab%8)+aa%8),av (af%256),av (af / 256%256),av (af / 65536%256),av (af / 16777216%256)],ao 0]) (E1++ [tT,aw c4,aW,aw c9,aW,.go 64,tT,tT,bQ 1,tT,tT,bQ 3,tT,tT,bQ 8,tF])).to (by clear E1;subst_vars;(try simp only [aX] at*);(try simp only [ck] at h);(try simp only [bP,cq] at*);simp_all [aI,cT,aN,show aF 26=7 from rfl,bq,bD,bw,bI,bf,bF])
  have QS:= @fN ab aa d0 d1 b0 b1 false false h3
  rcases cQ (decide (aa%8=4)) with Tx|Tx
  ·have Q0:= @gm ab aa af d0 d1 b0 b1 p0 p1 Tx
   exact (kD (d:= .aQ [.bc (.fresh 1) 1 [av 15,av 182,av (128+8*(ab%8)+aa%8),av 36,av (af%256),av (af / 256%256),av (af / 65536%256),av (af / 16777216%256)],ao 0]) (E1++ [tT,aw QS,aW,aw Q0,aW,.go 64,tT,tT,bQ 0,tT,tT,bQ 2,tT,tT,bQ 8,tF])).to (by clear E1;subst_vars;(try simp only [aX] at*);(try simp only [ck] at h);(try simp only [bP,cq] at*);simp_all [aI,cT,aN,show aF 26=7 from rfl,bq,bD,bw,bI,bf,bF])
  have Q8:= @gl ab aa af d0 d1 b0 b1 p0 p1 Tx
  exact (kD (d:= .aQ [.bc (.fresh 1) 1 [av 15,av 182,av (128+8*(ab%8)+aa%8),av (af%256),av (af / 256%256),av (af / 65536%256),av (af / 16777216%256)],ao 0]) (E1++ [tT,aw QS,aW,aw Q8,aW,.go 64,tT,tT,bQ 0,tT,tT,bQ 2,tT,tT,bQ 7,tF])).to (by clear E1;subst_vars;(try simp only [aX] at*);(try simp only [ck] at h);(try simp only [bP,cq] at*);simp_all [aI,cT,aN,show aF 26=7 from rfl,bq,bD,bw,bI,bf,bF])
 let E2:EL:=E1++ [tC (aH h2)]
 by_cases h14:w=16
 ·subst h14
  rcases cQ (bX false ab aa false) with h15|h15
  ·have Q9:= @eM ab aa d0 d1 b0 b1 false false h15
   generalize g18:dm false ab aa=r17 at Q9
   rcases cQ (decide (aa%8=4)) with h19|h19
   ·have Te:= @gm ab aa af d0 d1 b0 b1 p0 p1 h19
    exact (kD (d:= .aQ [.bc (.fresh 1) 1 [av r17,av 15,av 183,av (128+8*(ab%8)+aa%8),av 36,av (af%256),av (af / 256%256),av (af / 65536%256),av (af / 16777216%256)],ao 0]) (E2++ [tT,aw Q9,aW,aw Te,aW,.go 64,tT,tT,bQ 1,tT,tT,bQ 3,tT,tT,bQ 9,tF])).to (by clear E1 E2;subst_vars;(try simp only [aX] at*);(try simp only [ck] at h);(try simp only [bP,cq] at*);simp_all [aI,cT,aN,show aF 26=7 from rfl,bq,bD,bw,bI,bf,bF])
   have Tq:= @gl ab aa af d0 d1 b0 b1 p0 p1 h19
   exact (kD (d:= .aQ [.bc (.fresh 1) 1 [av r17,av 15,av 183,av (128+8*(ab%8)+aa%8),av (af%256),av (af / 256%256),av (af / 65536%256),av (af / 16777216%256)],ao 0]) (E2++ [tT,aw Q9,aW,aw Tq,aW,.go 64,tT,tT,bQ 1,tT,tT,bQ 3,tT,tT,bQ 8,tF])).to (by clear E1 E2;subst_vars;(try simp only [aX] at*);(try simp only [ck] at h);(try simp only [bP,cq] at*);simp_all [aI,cT,aN,show aF 26=7 from rfl,bq,bD,bw,bI,bf,bF])
  have Tm:= @fN ab aa d0 d1 b0 b1 false false h15
  rcases cQ (decide (aa%8=4)) with h23|h23
  ·have Ss:= @gm ab aa af d0 d1 b0 b1 p0 p1 h23
   exact (kD (d:= .aQ [.bc (.fresh 1) 1 [av 15,av 183,av (128+8*(ab%8)+aa%8),av 36,av (af%256),av (af / 256%256),av (af / 65536%256),av (af / 16777216%256)],ao 0]) (E2++ [tT,aw Tm,aW,aw Ss,aW,.go 64,tT,tT,bQ 0,tT,tT,bQ 2,tT,tT,bQ 8,tF])).to (by clear E1 E2;subst_vars;(try simp only [aX] at*);(try simp only [ck] at h);(try simp only [bP,cq] at*);simp_all [aI,cT,aN,show aF 26=7 from rfl,bq,bD,bw,bI,bf,bF])
  have UF:= @gl ab aa af d0 d1 b0 b1 p0 p1 h23
  exact (kD (d:= .aQ [.bc (.fresh 1) 1 [av 15,av 183,av (128+8*(ab%8)+aa%8),av (af%256),av (af / 256%256),av (af / 65536%256),av (af / 16777216%256)],ao 0]) (E2++ [tT,aw Tm,aW,aw UF,aW,.go 64,tT,tT,bQ 0,tT,tT,bQ 2,tT,tT,bQ 7,tF])).to (by clear E1 E2;subst_vars;(try simp only [aX] at*);(try simp only [ck] at h);(try simp only [bP,cq] at*);simp_all [aI,cT,aN,show aF 26=7 from rfl,bq,bD,bw,bI,bf,bF])
 rcases cQ (bX (w==64) ab aa false) with h26|h26
 ·have Sh:= @eM ab aa d0 d1 b0 b1 (w==64) false h26
  generalize g29:dm (w==64) ab aa=r28 at Sh
  rcases cQ (decide (aa%8=4)) with h30|h30
  ·have S5:= @gm ab aa af d0 d1 b0 b1 p0 p1 h30
   exact (kD (d:= .aQ [.bc (.fresh 1) 1 [av r28,av 139,av (128+8*(ab%8)+aa%8),av 36,av (af%256),av (af / 256%256),av (af / 65536%256),av (af / 16777216%256)],ao 0]) (E2++ [tC (aH h14),aw Sh,aW,aw S5,aW,.go 64,tT,tT,bQ 1,tT,tT,bQ 2,tT,tT,bQ 8,tF])).to (by clear E1 E2;subst_vars;(try simp only [aX] at*);(try simp only [ck] at h);(try simp only [bP,cq] at*);simp_all [aI,cT,aN,show aF 26=7 from rfl,bq,bD,bw,bI,bf,bF])
  have WN:= @gl ab aa af d0 d1 b0 b1 p0 p1 h30
  exact (kD (d:= .aQ [.bc (.fresh 1) 1 [av r28,av 139,av (128+8*(ab%8)+aa%8),av (af%256),av (af / 256%256),av (af / 65536%256),av (af / 16777216%256)],ao 0]) (E2++ [tC (aH h14),aw Sh,aW,aw WN,aW,.go 64,tT,tT,bQ 1,tT,tT,bQ 2,tT,tT,bQ 7,tF])).to (by clear E1 E2;subst_vars;(try simp only [aX] at*);(try simp only [ck] at h);(try simp only [bP,cq] at*);simp_all [aI,cT,aN,show aF 26=7 from rfl,bq,bD,bw,bI,bf,bF])
 have VB:= @fN ab aa d0 d1 b0 b1 (w==64) false h26
 rcases cQ (decide (aa%8=4)) with h34|h34
 ·have Wr:= @gm ab aa af d0 d1 b0 b1 p0 p1 h34
  exact (kD (d:= .aQ [.bc (.fresh 1) 1 [av 139,av (128+8*(ab%8)+aa%8),av 36,av (af%256),av (af / 256%256),av (af / 65536%256),av (af / 16777216%256)],ao 0]) (E2++ [tC (aH h14),aw VB,aW,aw Wr,aW,.go 64,tT,tT,bQ 0,tT,tT,bQ 1,tT,tT,bQ 7,tF])).to (by clear E1 E2;subst_vars;(try simp only [aX] at*);(try simp only [ck] at h);(try simp only [bP,cq] at*);simp_all [aI,cT,aN,show aF 26=7 from rfl,bq,bD,bw,bI,bf,bF])
 have c36:= @gl ab aa af d0 d1 b0 b1 p0 p1 h34
 exact (kD (d:= .aQ [.bc (.fresh 1) 1 [av 139,av (128+8*(ab%8)+aa%8),av (af%256),av (af / 256%256),av (af / 65536%256),av (af / 16777216%256)],ao 0]) (E2++ [tC (aH h14),aw VB,aW,aw c36,aW,.go 64,tT,tT,bQ 0,tT,tT,bQ 1,tT,tT,bQ 6,tF])).to (by clear E1 E2;subst_vars;(try simp only [aX] at*);(try simp only [ck] at h);(try simp only [bP,cq] at*);simp_all [aI,cT,aN,show aF 26=7 from rfl,bq,bD,bw,bI,bf,bF])
theorem w6 (w ab ae aa af aq cc:Int) (d0:0≤ab) (d1:ab≤15) (s0:0≤ae) (s1:ae≤15) (b0:0≤aa) (b1:aa≤15) (p0: -2147483648≤af) (p1:af≤2147483647) (i0: -2147483648≤aq) (i1:aq≤2147483647) (c0:0≤cc) (c1:cc≤15) (hm:a8 27 w ab ae aa af aq cc=true):aY Xh 43 ([xD 27 w ab ae aa af aq cc]) (.aQ [aZ 1 (bD (aN 27 w ab ae aa af aq cc)),ao 0]):=by
 have c0:= @bm 27 w ab ae aa af aq cc (by decide)
 rw [hm] at c0
 have c1:= @dr 27 (by decide)
 let E1:EL:=([aw c0,tF,aw c1]++bK 8 128)
 by_cases h2:w=8
 ·subst h2
  have c3:= @eM ae aa s0 s1 b0 b1 false true (rfl:true=true)
  generalize g5:dm false ae aa=r4 at c3
  rcases cQ (decide (aa%8=4)) with h6|h6
  ·have c7:= @gm ae aa af s0 s1 b0 b1 p0 p1 h6
   exact (kD (d:= .aQ [.bc (.fresh 1) 1 [av r4,av 136,av (128+8*(ae%8)+aa%8),av 36,av (af%256),av (af / 256%256),av (af / 65536%256),av (af / 16777216%256)],ao 0]) (E1++ [tT,aw c3,aW,aw c7,aW,.go 64,tT,tT,bQ 0,tT,tT,bQ 1,tT,tT,bQ 2,tT,tT,bQ 8,tF])).to (by clear E1;(subst_vars;(try simp only [aX] at*);(try simp only [ck] at h);(try simp only [bP,cq] at*);simp_all [aI,cT,aN,bD,bw,bI,bf,bF,bX,bq,bW,aF];done))
  have c8:= @gl ae aa af s0 s1 b0 b1 p0 p1 h6
  exact (kD (d:= .aQ [.bc (.fresh 1) 1 [av r4,av 136,av (128+8*(ae%8)+aa%8),av (af%256),av (af / 256%256),av (af / 65536%256),av (af / 16777216%256)],ao 0]) (E1++ [tT,aw c3,aW,aw c8,aW,.go 64,tT,tT,bQ 0,tT,tT,bQ 1,tT,tT,bQ 2,tT,tT,bQ 7,tF])).to (by clear E1;(subst_vars;(try simp only [aX] at*);(try simp only [ck] at h);(try simp only [bP,cq] at*);simp_all [aI,cT,aN,bD,bw,bI,bf,bF,bX,bq,bW,aF];done))
 let E2:EL:=E1++ [tC (aH h2)]
 by_cases h9:w=16
 ·subst h9
  rcases cQ (bX false ae aa false) with Sz|Sz
  ·have Rc:= @eM ae aa s0 s1 b0 b1 false false Sz
   generalize g13:dm false ae aa=TL at Rc
   rcases cQ (decide (aa%8=4)) with h14|h14
   ·have R6:= @gm ae aa af s0 s1 b0 b1 p0 p1 h14
    exact (kD (d:= .aQ [.bc (.fresh 1) 1 [av 102,av TL,av 137,av (128+8*(ae%8)+aa%8),av 36,av (af%256),av (af / 256%256),av (af / 65536%256),av (af / 16777216%256)],ao 0]) (E2++ [tT,aw Rc,aW,aw R6,aW,.go 64,tT,tT,bQ 1,tT,tT,bQ 2,tT,tT,bQ 3,tT,tT,bQ 9,tF])).to (by clear E1 E2;(subst_vars;(try simp only [aX] at*);(try simp only [ck] at h);(try simp only [bP,cq] at*);simp_all [aI,cT,aN,bD,bw,bI,bf,bF,bX,bq,bW,aF];done))
   have Q9:= @gl ae aa af s0 s1 b0 b1 p0 p1 h14
   exact (kD (d:= .aQ [.bc (.fresh 1) 1 [av 102,av TL,av 137,av (128+8*(ae%8)+aa%8),av (af%256),av (af / 256%256),av (af / 65536%256),av (af / 16777216%256)],ao 0]) (E2++ [tT,aw Rc,aW,aw Q9,aW,.go 64,tT,tT,bQ 1,tT,tT,bQ 2,tT,tT,bQ 3,tT,tT,bQ 8,tF])).to (by clear E1 E2;(subst_vars;(try simp only [aX] at*);(try simp only [ck] at h);(try simp only [bP,cq] at*);simp_all [aI,cT,aN,bD,bw,bI,bf,bF,bX,bq,bW,aF];done))
  have Tc:= @fN ae aa s0 s1 b0 b1 false false Sz
  rcases cQ (decide (aa%8=4)) with h18|h18
  ·have RO:= @gm ae aa af s0 s1 b0 b1 p0 p1 h18
   exact (kD (d:= .aQ [.bc (.fresh 1) 1 [av 102,av 137,av (128+8*(ae%8)+aa%8),av 36,av (af%256),av (af / 256%256),av (af / 65536%256),av (af / 16777216%256)],ao 0]) (E2++ [tT,aw Tc,aW,aw RO,aW,.go 64,tT,tT,bQ 1,tT,tT,bQ 1,tT,tT,bQ 2,tT,tT,bQ 8,tF])).to (by clear E1 E2;(subst_vars;(try simp only [aX] at*);(try simp only [ck] at h);(try simp only [bP,cq] at*);simp_all [aI,cT,aN,bD,bw,bI,bf,bF,bX,bq,bW,aF];done))
  have Te:= @gl ae aa af s0 s1 b0 b1 p0 p1 h18
  exact (kD (d:= .aQ [.bc (.fresh 1) 1 [av 102,av 137,av (128+8*(ae%8)+aa%8),av (af%256),av (af / 256%256),av (af / 65536%256),av (af / 16777216%256)],ao 0]) (E2++ [tT,aw Tc,aW,aw Te,aW,.go 64,tT,tT,bQ 1,tT,tT,bQ 1,tT,tT,bQ 2,tT,tT,bQ 7,tF])).to (by clear E1 E2;(subst_vars;(try simp only [aX] at*);(try simp only [ck] at h);(try simp only [bP,cq] at*);simp_all [aI,cT,aN,bD,bw,bI,bf,bF,bX,bq,bW,aF];done))
 rcases cQ (bX (w==64) ae aa (w==8)) with h21|h21
 ·have Tm:= @eM ae aa s0 s1 b0 b1 (w==64) (w==8) h21
  generalize g24:dm (w==64) ae aa=r23 at Tm
  rcases cQ (decide (aa%8=4)) with h25|h25
  ·have SO:= @gm ae aa af s0 s1 b0 b1 p0 p1 h25
   exact (kD (d:= .aQ [.bc (.fresh 1) 1 [av r23,av 137,av (128+8*(ae%8)+aa%8),av 36,av (af%256),av (af / 256%256),av (af / 65536%256),av (af / 16777216%256)],ao 0]) (E2++ [tC (aH h9),aw Tm,aW,aw SO,aW,.go 64,tT,tT,bQ 0,tT,tT,bQ 1,tT,tT,bQ 2,tT,tT,bQ 8,tF])).to (by clear E1 E2;(subst_vars;(try simp only [aX] at*);(try simp only [ck] at h);(try simp only [bP,cq] at*);simp_all [aI,cT,aN,bD,bw,bI,bf,bF,bX,bq,bW,aF];done))
  have Sh:= @gl ae aa af s0 s1 b0 b1 p0 p1 h25
  exact (kD (d:= .aQ [.bc (.fresh 1) 1 [av r23,av 137,av (128+8*(ae%8)+aa%8),av (af%256),av (af / 256%256),av (af / 65536%256),av (af / 16777216%256)],ao 0]) (E2++ [tC (aH h9),aw Tm,aW,aw Sh,aW,.go 64,tT,tT,bQ 0,tT,tT,bQ 1,tT,tT,bQ 2,tT,tT,bQ 7,tF])).to (by clear E1 E2;(subst_vars;(try simp only [aX] at*);(try simp only [ck] at h);(try simp only [bP,cq] at*);simp_all [aI,cT,aN,bD,bw,bI,bf,bF,bX,bq,bW,aF];done))
 have UR:= @fN ae aa s0 s1 b0 b1 (w==64) (w==8) h21
 rcases cQ (decide (aa%8=4)) with h29|h29
 ·have Tj:= @gm ae aa af s0 s1 b0 b1 p0 p1 h29
  exact (kD (d:= .aQ [.bc (.fresh 1) 1 [av 137,av (128+8*(ae%8)+aa%8),av 36,av (af%256),av (af / 256%256),av (af / 65536%256),av (af / 16777216%256)],ao 0]) (E2++ [tC (aH h9),aw UR,aW,aw Tj,aW,.go 64,tT,tT,bQ 0,tT,tT,bQ 0,tT,tT,bQ 1,tT,tT,bQ 7,tF])).to (by clear E1 E2;(subst_vars;(try simp only [aX] at*);(try simp only [ck] at h);(try simp only [bP,cq] at*);simp_all [aI,cT,aN,bD,bw,bI,bf,bF,bX,bq,bW,aF];done))
 have S5:= @gl ae aa af s0 s1 b0 b1 p0 p1 h29
 exact (kD (d:= .aQ [.bc (.fresh 1) 1 [av 137,av (128+8*(ae%8)+aa%8),av (af%256),av (af / 256%256),av (af / 65536%256),av (af / 16777216%256)],ao 0]) (E2++ [tC (aH h9),aw UR,aW,aw S5,aW,.go 64,tT,tT,bQ 0,tT,tT,bQ 0,tT,tT,bQ 1,tT,tT,bQ 6,tF])).to (by clear E1 E2;(subst_vars;(try simp only [aX] at*);(try simp only [ck] at h);(try simp only [bP,cq] at*);simp_all [aI,cT,aN,bD,bw,bI,bf,bF,bX,bq,bW,aF];done))
def qA (Q3:Int):Prop:= ∀(w ab ae aa af aq cc:Int) (d0:0≤ab) (d1:ab≤15) (s0:0≤ae) (s1:ae≤15) (b0:0≤aa) (b1:aa≤15) (p0: -2147483648≤af) (p1:af≤2147483647) (i0: -2147483648≤aq) (i1:aq≤2147483647) (c0:0≤cc) (c1:cc≤15) (hm:a8 Q3 w ab ae aa af aq cc=true),aY Xh 43 ([xD Q3 w ab ae aa af aq cc]) (.aQ [aZ 1 (bD (aN Q3 w ab ae aa af aq cc)),ao 0])
theorem w5:qA 28:=by
 intro w ab ae aa af aq cc d0 d1 s0 s1 b0 b1 p0 p1 i0 i1 c0 c1 hm
 have c0:= @bm 28 w ab ae aa af aq cc (by decide)
 rw [show (a8 28 w ab ae aa af aq cc)=true from hm] at c0
 have c1:= @dr 28 (by decide)
 by_cases h2:w=8
 ·subst h2
  exact (kD (d:= .aQ [.bc .tight 1 [av 235,av (YO.wrap YO.u8 aq)],ao 0]) ([aw c0,tF,aw c1]++Xg 8 tF++ [tT,tT])).to (by (subst_vars;(try simp only [aX] at*);(try simp only [ck] at h);(try simp only [bP,cq] at*);simp_all [aI,cT,aN,show aF 28=9 from rfl,bD,bw,bI,bf,bF];done))
 have c3:= @lC aq
 exact (kD (d:= .aQ [.bc (.fresh 1) 1 [av 233,av (aq%256),av (aq / 256%256),av (aq / 65536%256),av (aq / 16777216%256)],ao 0]) ([aw c0,tF,aw c1]++Xg 8 tF++ [tT,tC (aH h2),aw c3,aW,.go 64,tT,tT,bQ 1,tT,tT,bQ 5,tF])).to (by (subst_vars;(try simp only [aX] at*);(try simp only [ck] at h);(try simp only [bP,cq] at*);simp_all [aI,cT,aN,show aF 28=9 from rfl,bD,bw,bI,bf,bF];done))
theorem wZ:qA 29:=by
 intro w ab ae aa af aq cc d0 d1 s0 s1 b0 b1 p0 p1 i0 i1 c0 c1 hm
 have c0:= @bm 29 w ab ae aa af aq cc (by decide)
 rw [show (a8 29 w ab ae aa af aq cc)=true from hm] at c0
 have c1:= @dr 29 (by decide)
 by_cases h2:w=8
 ·subst h2
  exact (kD (d:= .aQ [.bc .tight 1 [av (YO.wrap YO.u8 (112+YO.wrap YO.u8 cc)),av (YO.wrap YO.u8 aq)],ao 0]) ([aw c0,tF,aw c1]++Xg 9 tF++ [tT,tT])).to (by (subst_vars;(try simp only [aX] at*);(try simp only [ck] at h);(try simp only [bP,cq] at*);simp_all [aI,cT,aN,show aF 29=10 from rfl,bD,bw,bI,bf,bF];omega))
 have c3:= @lC aq
 exact (kD (d:= .aQ [.bc (.fresh 1) 1 [av 15,av (YO.wrap YO.u8 (128+YO.wrap YO.u8 cc)),av (aq%256),av (aq / 256%256),av (aq / 65536%256),av (aq / 16777216%256)],ao 0]) ([aw c0,tF,aw c1]++Xg 9 tF++ [tT,tC (aH h2),aw c3,aW,.go 64,tT,tT,bQ 2,tT,tT,bQ 6,tF])).to (by (subst_vars;(try simp only [aX] at*);(try simp only [ck] at h);(try simp only [bP,cq] at*);simp_all [aI,cT,aN,show aF 29=10 from rfl,bD,bw,bI,bf,bF];omega))
theorem wY:qA 30:=by
 intro w ab ae aa af aq cc d0 d1 s0 s1 b0 b1 p0 p1 i0 i1 c0 c1 hm
 have c0:= @bm 30 w ab ae aa af aq cc (by decide)
 rw [show (a8 30 w ab ae aa af aq cc)=true from hm] at c0
 have c1:= @dr 30 (by decide)
 exact (kD (d:= .aQ [.bc .tight 1 [av 195],ao 0]) ([aw c0,tF,aw c1]++Xg 11 tF)).to (by (subst_vars;(try simp only [aX] at*);(try simp only [ck] at h);(try simp only [bP,cq] at*);simp_all [aI,cT,aN,show aF 30=11 from rfl,bD,bw,bI,bf,bF];done))
theorem wX:qA 31:=by
 intro w ab ae aa af aq cc d0 d1 s0 s1 b0 b1 p0 p1 i0 i1 c0 c1 hm
 have c0:= @bm 31 w ab ae aa af aq cc (by decide)
 rw [show (a8 31 w ab ae aa af aq cc)=true from hm] at c0
 have c1:= @dr 31 (by decide)
 exact (kD (d:= .aQ [.bc .tight 1 [av 15,av 5],ao 0]) ([aw c0,tF,aw c1]++Xg 10 tF++ [tT])).to (by (subst_vars;(try simp only [aX] at*);(try simp only [ck] at h);(try simp only [bP,cq] at*);simp_all [aI,cT,aN,show aF 31=11 from rfl,bD,bw,bI,bf,bF];done))
theorem Ez (op:Int):0≤bW op∧bW op≤7:=by
 unfold bW
 repeat' split
 all_goals omega
theorem KV {op w ab ae aa af aq cc:Int} (h:a8 op w ab ae aa af aq cc=true):0≤cc∧cc≤15:=by
 have hs:=(ef h).2
 unfold br at hs
 repeat' split at hs
 all_goals first|(cases hs;done)|(simp only [bB,Bool.and_eq_true,bP] at hs;omega)
theorem wW (op w ab ae aa af aq cc:Int) (ho:op≤127) (hm:a8 op w ab ae aa af aq cc=true):
  aY Xh 43 [xD op w ab ae aa af aq cc] (.aQ [aZ 1 (bD (aN op w ab ae aa af aq cc)),ao 0]):=by
 obtain ⟨⟨d0,d1,s0,s1,b0,b1,p0,p1,i0,i1⟩,hs⟩:=ef hm
 obtain ⟨c0,c1⟩:=KV hm
 obtain ⟨n0,n1⟩:=Ez op
 have Tf:aF op≠0:=by
  intro e
  rw [e] at hs
  simp [br] at hs
 obtain ⟨k,e⟩:=vZ Tf
 have Q4:decide (0≤op∧op≤31)=true:=by rw [e];simp;omega
 have hr:=ky k
 rw [← e] at hr
 rcases hr with h|h|h|h|h|h|h|h|h|h|h
 ·exact BH _ _ _ _ _ _ _ _ ho d0 d1 s0 s1 b0 b1 p0 p1 i0 i1 c0 c1 n0 n1 (by rw [h];rfl) Q4 hm
 ·have e2:op=16:=by
   rw [e] at h ⊢
   revert h
   exact (by decide+kernel:∀n:Fin 32,aF (n.val:Int)=2→(n.val:Int)=16) k
  subst e2
  exact w9 _ _ _ _ _ _ _ d0 d1 s0 s1 b0 b1 p0 p1 i0 i1 c0 c1 hm
 ·exact BG _ _ _ _ _ _ _ _ ho d0 d1 s0 s1 b0 b1 p0 p1 i0 i1 c0 c1 n0 n1 (by rw [h];rfl) Q4 (jo (by rw [h] at hs;simp [br] at hs;exact hs.1)) hm
 ·exact BF _ _ _ _ _ _ _ _ ho d0 d1 s0 s1 b0 b1 p0 p1 i0 i1 c0 c1 n0 n1 (by rw [h];rfl) Q4 hm
 ·exact BE _ _ _ _ _ _ _ _ ho d0 d1 s0 s1 b0 b1 p0 p1 i0 i1 c0 c1 n0 n1 (by rw [h];rfl) Q4 hm
 ·have e2:op=25:=by rw [e] at h ⊢;exact vd k h
  subst e2
  exact w8 _ _ _ _ _ _ _ d0 d1 s0 s1 b0 b1 p0 p1 i0 i1 c0 c1 hm
 ·have e2:op=26:=by rw [e] at h ⊢;exact u9 k h
  subst e2
  exact w7 _ _ _ _ _ _ _ d0 d1 s0 s1 b0 b1 p0 p1 i0 i1 c0 c1 hm
 ·have e2:op=27:=by rw [e] at h ⊢;exact u7 k h
  subst e2
  exact w6 _ _ _ _ _ _ _ d0 d1 s0 s1 b0 b1 p0 p1 i0 i1 c0 c1 hm
 ·have e2:op=28:=by rw [e] at h ⊢;exact u6 k h
  subst e2
  exact w5 _ _ _ _ _ _ _ d0 d1 s0 s1 b0 b1 p0 p1 i0 i1 c0 c1 hm
 ·have e2:op=29:=by rw [e] at h ⊢;exact qO k h
  subst e2
  exact wZ _ _ _ _ _ _ _ d0 d1 s0 s1 b0 b1 p0 p1 i0 i1 c0 c1 hm
 ·rcases qN k (by rw [e] at h;exact h) with e2|e2
  ·rw [← e] at e2;subst e2
   exact wY _ _ _ _ _ _ _ d0 d1 s0 s1 b0 b1 p0 p1 i0 i1 c0 c1 hm
  ·rw [← e] at e2;subst e2
   exact wX _ _ _ _ _ _ _ d0 d1 s0 s1 b0 b1 p0 p1 i0 i1 c0 c1 hm
theorem y8 (op w ab ae aa af aq cc:Int) (ho:op≤127) (hm:a8 op w ab ae aa af aq cc=false):aY Xh 43 ([xD op w ab ae aa af aq cc]) (.aQ [aZ 1 [],ao 2]):=by
 have c0:= @bm op w ab ae aa af aq cc ho
 rw [show (a8 op w ab ae aa af aq cc)=false from hm] at c0
 exact (kD (d:= .aQ [.bc .tight 0 [],ao 2]) [aw c0,tT]).to (by simp [aI,cT])
theorem jS (op w ab ae aa af aq cc:Int) (ho:op≤127):aY Xh 43 [xD op w ab ae aa af aq cc] (.aQ [aZ 1 (mo op w ab ae aa af aq cc),ao (pB op w ab ae aa af aq cc)]):=by
 unfold mo pB
 cases h:a8 op w ab ae aa af aq cc
 ·exact y8 op w ab ae aa af aq cc ho h
 ·exact wW op w ab ae aa af aq cc ho h
theorem dc (op w ab ae aa af aq cc:Int) (ho:op≤127):aY Xh 116 ([xD op w ab ae aa af aq cc]) (ao (eY op w ab ae aa af aq cc)):=by
 have c0:= @jS op w ab ae aa af aq cc ho
 exact (Po (d:= .int .i64 (↑(Xj (mo op w ab ae aa af aq cc)):Int)) [aw c0]).to (by simp [wk,eY])
theorem Mq (b:List Int) (s:aM):aJ Xh (db Tryz.f141 0) ⟨[],[1,2,3,5],[]⟩ 9 ([D.je 5,.ptr false 4 0,uu,.ptr false 7 0]++e8 11++ [.agg jH,ao 32]++e8 16) [au [aZ 1 (bD b)],au [aj 0,aj 0,aj 0,aj 0,aj 0,ao 0,ao 0,aj 0],au [ao 0],au [ao 0],au [aZ 1 (bD b)],
 Ob.lp Lk.ready
  (let y:=
   let y:=
    let y:=(e8 5);
    uu::uu::uu::uu::uu::y;
   let y:=uu::uu::uu::uu::uu::y;
   uu::uu::uu::uu::uu::y;
  let y:=
   let y:=uu::uu::uu::uu::uu::y;
   uu::uu::uu::uu::uu::y;
  let y:= .ptr false 3 0::uu::uu::uu::uu::y;
  uu:: .ptr false 0 0:: .ptr false 1 0:: .ptr false 2 0::y)
  #[10] (dg X9 0) (de X9 0),
 .dead,au [aj (aM.w s),ax (aM.fw s),av (aM.code s),aj (aM.r s),aj (aM.m s),ao (aM.af s),ao (aM.aq s),ao (aM.small s),ao (aM.gi s),ao (aM.gL s),aj (aM.high s)],aA] (Ex.exit 0) (e8 33) ([aA,au [aj 0,aj 0,aj 0,aj 0,aj 0,ao 0,ao 0,aj 0],au [ao 0],au [ao 0],aA,Ob.lp Lk.ready ([uu,.ptr false 0 0,.ptr false 1 0,.ptr false 2 0,.ptr false 3 0]++e8 34) #[10] (dg X9 0) (de X9 0),aA,aA,aA]):=aJ.ai mixed [tF] (by kernel_rfl)
theorem Mo (b own:List Int) (s:aM) (k:Int) (k0:0≤k) (k1:k≤31) (v0:0≤s.code) (v1:s.code≤255) (hh:s.high=0∨s.high=8) (hy:aY Xh 72 [lV (fM s k)] (ax false)):aJ Xh (db Tryz.f141 0) ⟨[0,1,3,15,16],[0,1,2,3,4,5,7],[]⟩ 9 ([D.je 5,.ptr false 4 0,uu,.ptr false 7 0]++e8 11++ [.agg jH,ao k]++e8 16) [au [aZ 1 (bD b)],au [aj 0,aj 0,aj 0,aj 0,aj 0,ao 0,ao 0,aj 0],au [ao 0],au [ao 0],au [aZ 1 (bD b)],
 Ob.lp Lk.ready
  (let y:=
   let y:=
    let y:=(e8 5);
    uu::uu::uu::uu::uu::y;
   let y:=uu::uu::uu::uu::uu::y;
   uu::uu::uu::uu::uu::y;
  let y:=
   let y:=uu::uu::uu::uu::uu::y;
   uu::uu::uu::uu::uu::y;
  let y:= .ptr false 3 0::uu::uu::uu::uu::y;
  uu:: .ptr false 0 0:: .ptr false 1 0:: .ptr false 2 0::y)
  #[10] (dg X9 0) (de X9 0),
 .dead,au [aj (aM.w s),ax (aM.fw s),av (aM.code s),aj (aM.r s),aj (aM.m s),ao (aM.af s),ao (aM.aq s),ao (aM.small s),ao (aM.gi s),ao (aM.gL s),aj (aM.high s)],aA] .norm ([D.je 5,.ptr false 4 0,uu,.ptr false 7 0]++e8 11++ [.agg jH,ao (YO.i64.wrap (k+1))]++e8 16) ([au [aZ 1 (bD b)],au [aj 0,aj 0,aj 0,aj 0,aj 0,ao 0,ao 0,aj 0],au [ao 0],au [ao 0],au [aZ 1 (bD b)],.lp .ready ([uu,.ptr false 0 0,.ptr false 1 0,.ptr false 2 0,.ptr false 3 0]++e8 34) #[10] (dg X9 0) (de X9 0),aA,au [aj (aM.w s),.bool (aM.fw s),av (aM.code s),aj (aM.r s),aj (aM.m s),ao (aM.af s),ao (aM.aq s),ao (aM.small s),ao (aM.gi s),ao (aM.gL s),aj (aM.high s)],aA]):=aJ.ai mixed [tC (bT (Xl k1)),.dP (decide (0≤k∧k<(↑(32:Nat):Int))) true (by (simp only [cY] at*;omega)),.fX _ _ _ _ (@ot k k0 k1),.aD _ _ _ _ _ (@C4 s k k0 k1 v0 v1 hh (au [aZ 1 (bD b)]) (au [aj 0,aj 0,aj 0,aj 0,aj 0,ao 0,ao 0,aj 0]) (au [ao 0]) (au [ao 0]) (au [aZ 1 (bD b)]) (Ob.lp Lk.ready ([uu,.ptr false 0 0,.ptr false 1 0,.ptr false 2 0,.ptr false 3 0]++e8 34) #[10] (dg X9 0) (de X9 0)) (aA) (aA) (au [aj (aF k),av (bq k),aj (bW k)])),aw hy,tF,tF,tF,tF,tF,tF] (by kernel_rfl)
theorem Ko (b own:List Int) (s:aM) (k:Int) (k0:0≤k) (k1:k≤31) (v0:0≤s.code) (v1:s.code≤255) (hh:s.high=0∨s.high=8) (hy:aY Xh 72 [lV (fM s k)] (ax true)) (hb:aY Xh 43 [lV (fM s k)] (.aQ [aZ 1 (bD own),ao 0])) (hl:((bD b).length:Int)<((bD own).length:Int)):aJ Xh (db Tryz.f141 0) ⟨[0,1,3,15,16],[0,1,2,3,4,5,7],[]⟩ 9 ([D.je 5,.ptr false 4 0,uu,.ptr false 7 0]++e8 11++ [.agg jH,ao k]++e8 16) [au [aZ 1 (bD b)],au [aj 0,aj 0,aj 0,aj 0,aj 0,ao 0,ao 0,aj 0],au [ao 0],au [ao 0],au [aZ 1 (bD b)],
 Ob.lp Lk.ready
  (let y:=
   let y:=
    let y:=(e8 5);
    uu::uu::uu::uu::uu::y;
   let y:=uu::uu::uu::uu::uu::y;
   uu::uu::uu::uu::uu::y;
  let y:=
   let y:=uu::uu::uu::uu::uu::y;
   uu::uu::uu::uu::uu::y;
  let y:= .ptr false 3 0::uu::uu::uu::uu::y;
  uu:: .ptr false 0 0:: .ptr false 1 0:: .ptr false 2 0::y)
  #[10] (dg X9 0) (de X9 0),
 .dead,au [aj (aM.w s),ax (aM.fw s),av (aM.code s),aj (aM.r s),aj (aM.m s),ao (aM.af s),ao (aM.aq s),ao (aM.small s),ao (aM.gi s),ao (aM.gL s),aj (aM.high s)],aA] .norm ([D.je 5,.ptr false 4 0,uu,.ptr false 7 0]++e8 11++ [.agg jH,ao (YO.i64.wrap (k+1))]++e8 16) ([au [aZ 1 (bD b)],au [aj 0,aj 0,aj 0,aj 0,aj 0,ao 0,ao 0,aj 0],au [ao 0],au [ao 0],au [aZ 1 (bD b)],.lp .ready ([uu,.ptr false 0 0,.ptr false 1 0,.ptr false 2 0,.ptr false 3 0]++e8 34) #[10] (dg X9 0) (de X9 0),aA,au [aj (aM.w s),.bool (aM.fw s),av (aM.code s),aj (aM.r s),aj (aM.m s),ao (aM.af s),ao (aM.aq s),ao (aM.small s),ao (aM.gi s),ao (aM.gL s),aj (aM.high s)],aA]):=aJ.ai mixed ([tC (bT (Xl k1)),.dP (decide (0≤k∧k<(↑(32:Nat):Int))) true (by (simp only [cY] at*;omega)),.fX _ _ _ _ (@ot k k0 k1),.aD _ _ _ _ _ (@C4 s k k0 k1 v0 v1 hh (au [aZ 1 (bD b)]) (au [aj 0,aj 0,aj 0,aj 0,aj 0,ao 0,ao 0,aj 0]) (au [ao 0]) (au [ao 0]) (au [aZ 1 (bD b)]) (Ob.lp Lk.ready ([uu,.ptr false 0 0,.ptr false 1 0,.ptr false 2 0,.ptr false 3 0]++e8 34) #[10] (dg X9 0) (de X9 0)) (aA) (aA) (au [aj (aF k),av (bq k),aj (bW k)])),aw hy,tT,tT,tT,aW,aw hb,tT,tT,tT,tT,tT,tT]++ [tC (eT (by (simp only [cY] at*;omega):(decide ((↑(Xj (bD own)):Int)≤(↑(Xj (bD b)):Int)))=false)),tC (eT (by (simp only [cY] at*;omega):(decide ((↑(Xj (bD own)):Int)≤(↑(Xj (bD b)):Int)))=false)),tC (eT (by (simp only [cY] at*;omega):(decide ((↑(Xj (bD own)):Int)≤(↑(Xj (bD b)):Int)))=false)),tC (eT (by (simp only [cY] at*;omega):(decide ((↑(Xj (bD own)):Int)≤(↑(Xj (bD b)):Int)))=false)),tC (eT (by (simp only [cY] at*;omega):(decide ((↑(Xj (bD own)):Int)≤(↑(Xj (bD b)):Int)))=false)),tC (eT (by (simp only [cY] at*;omega):(decide ((↑(Xj (bD own)):Int)≤(↑(Xj (bD b)):Int)))=false)),tC (eT (by (simp only [cY] at*;omega):(decide ((↑(Xj (bD own)):Int)≤(↑(Xj (bD b)):Int)))=false)),tC (eT (by (simp only [cY] at*;omega):(decide ((↑(Xj (bD own)):Int)≤(↑(Xj (bD b)):Int)))=false)),tC (by (simp only [cY] at*;omega):(decide ((↑(Xj (bD own)):Int)≤(↑(Xj (bD b)):Int)))=false),tF,tT,tT,tF]) (by kernel_rfl)
theorem Mn (b own:List Int) (s:aM) (k:Int) (k0:0≤k) (k1:k≤31) (v0:0≤s.code) (v1:s.code≤255) (hh:s.high=0∨s.high=8) (hy:aY Xh 72 [lV (fM s k)] (ax true)) (hb:aY Xh 43 [lV (fM s k)] (.aQ [aZ 1 (bD own),ao 0])) (hl:((bD own).length:Int)≤((bD b).length:Int)) (hs:((gk (bD own)).toList==(gk (Yz (Xi ((Xj (bD own):Nat):Int)) (bD b))).toList)=false):aJ Xh (db Tryz.f141 0) ⟨[0,1,3,15,16],[0,1,2,3,4,5,7],[]⟩ 9 ([D.je 5,.ptr false 4 0,uu,.ptr false 7 0]++e8 11++ [.agg jH,ao k]++e8 16) [au [aZ 1 (bD b)],au [aj 0,aj 0,aj 0,aj 0,aj 0,ao 0,ao 0,aj 0],au [ao 0],au [ao 0],au [aZ 1 (bD b)],
 Ob.lp Lk.ready
  (let y:=
   let y:=
    let y:=(e8 5);
    uu::uu::uu::uu::uu::y;
   let y:=uu::uu::uu::uu::uu::y;
   uu::uu::uu::uu::uu::y;
  let y:=
   let y:=uu::uu::uu::uu::uu::y;
   uu::uu::uu::uu::uu::y;
  let y:= .ptr false 3 0::uu::uu::uu::uu::y;
  uu:: .ptr false 0 0:: .ptr false 1 0:: .ptr false 2 0::y)
  #[10] (dg X9 0) (de X9 0),
 .dead,au [aj (aM.w s),ax (aM.fw s),av (aM.code s),aj (aM.r s),aj (aM.m s),ao (aM.af s),ao (aM.aq s),ao (aM.small s),ao (aM.gi s),ao (aM.gL s),aj (aM.high s)],aA] .norm ([D.je 5,.ptr false 4 0,uu,.ptr false 7 0]++e8 11++ [.agg jH,ao (YO.i64.wrap (k+1))]++e8 16) ([au [aZ 1 (bD b)],au [aj 0,aj 0,aj 0,aj 0,aj 0,ao 0,ao 0,aj 0],au [ao 0],au [ao 0],au [aZ 1 (bD b)],.lp .ready ([uu,.ptr false 0 0,.ptr false 1 0,.ptr false 2 0,.ptr false 3 0]++e8 34) #[10] (dg X9 0) (de X9 0),aA,au [aj (aM.w s),.bool (aM.fw s),av (aM.code s),aj (aM.r s),aj (aM.m s),ao (aM.af s),ao (aM.aq s),ao (aM.small s),ao (aM.gi s),ao (aM.gL s),aj (aM.high s)],aA]):=aJ.ai mixed ([tC (bT (Xl k1)),.dP (decide (0≤k∧k<(↑(32:Nat):Int))) true (by (simp only [cY] at*;omega)),.fX _ _ _ _ (@ot k k0 k1),.aD _ _ _ _ _ (@C4 s k k0 k1 v0 v1 hh (au [aZ 1 (bD b)]) (au [aj 0,aj 0,aj 0,aj 0,aj 0,ao 0,ao 0,aj 0]) (au [ao 0]) (au [ao 0]) (au [aZ 1 (bD b)]) (Ob.lp Lk.ready ([uu,.ptr false 0 0,.ptr false 1 0,.ptr false 2 0,.ptr false 3 0]++e8 34) #[10] (dg X9 0) (de X9 0)) (aA) (aA) (au [aj (aF k),av (bq k),aj (bW k)])),aw hy,tT,tT,tT,aW,aw hb,tT,tT,tT,tT,tT,tT]++ [tC (eT (by (simp only [cY] at*;omega):(decide ((↑(Xj (bD own)):Int)≤(↑(Xj (bD b)):Int)))=true)),tC (eT (by (simp only [cY] at*;omega):(decide ((↑(Xj (bD own)):Int)≤(↑(Xj (bD b)):Int)))=true)),tC (v:=true) (@B0 own),tC (eT (by (simp only [cY] at*;omega):(decide ((↑(Xj (bD own)):Int)≤(↑(Xj (bD b)):Int)))=true)),tC (eT (by (simp only [cY] at*;omega):(decide ((↑(Xj (bD own)):Int)≤(↑(Xj (bD b)):Int)))=true)),tC (eT (by (simp only [cY] at*;omega):(decide ((↑(Xj (bD own)):Int)≤(↑(Xj (bD b)):Int)))=true)),tC (eT (by (simp only [cY] at*;omega):(decide ((↑(Xj (bD own)):Int)≤(↑(Xj (bD b)):Int)))=true)),.dP (decide (0≤(↑(Xj (bD own)):Int)∧(↑(Xj (bD own)):Int)≤(↑(Xj (bD b)):Int))) true (by (simp only [cY] at*;omega)),tC (eT (by (simp only [cY] at*;omega):(decide ((↑(Xj (bD own)):Int)≤(↑(Xj (bD b)):Int)))=true)),tC (v:=true) (@jX b (Xi (↑(Xj (bD own)):Int))),tC (eT (by (simp only [cY] at*;omega):(decide ((↑(Xj (bD own)):Int)≤(↑(Xj (bD b)):Int)))=true)),tC (by (simp only [cY] at*;omega):(decide ((↑(Xj (bD own)):Int)≤(↑(Xj (bD b)):Int)))=true),tC hs,tT,tT,tF]) (by kernel_rfl)
theorem Mp (b own:List Int) (s:aM) (k:Int) (k0:0≤k) (k1:k≤31) (v0:0≤s.code) (v1:s.code≤255) (hh:s.high=0∨s.high=8) (hy:aY Xh 72 [lV (fM s k)] (ax true)) (hb:aY Xh 43 [lV (fM s k)] (.aQ [aZ 1 (bD own),ao 0])) (hl:((bD own).length:Int)≤((bD b).length:Int)) (hs:((gk (bD own)).toList==(gk (Yz (Xi ((Xj (bD own):Nat):Int)) (bD b))).toList)=true):aJ Xh (db Tryz.f141 0) ⟨[],[1,2,3,5],[]⟩ 9 ([D.je 5,.ptr false 4 0,uu,.ptr false 7 0]++e8 11++ [.agg jH,ao k]++e8 16) [au [aZ 1 (bD b)],au [aj 0,aj 0,aj 0,aj 0,aj 0,ao 0,ao 0,aj 0],au [ao 0],au [ao 0],au [aZ 1 (bD b)],
 Ob.lp Lk.ready
  (let y:=
   let y:=
    let y:=(e8 5);
    uu::uu::uu::uu::uu::y;
   let y:=uu::uu::uu::uu::uu::y;
   uu::uu::uu::uu::uu::y;
  let y:=
   let y:=uu::uu::uu::uu::uu::y;
   uu::uu::uu::uu::uu::y;
  let y:= .ptr false 3 0::uu::uu::uu::uu::y;
  uu:: .ptr false 0 0:: .ptr false 1 0:: .ptr false 2 0::y)
  #[10] (dg X9 0) (de X9 0),
 .dead,au [aj (aM.w s),ax (aM.fw s),av (aM.code s),aj (aM.r s),aj (aM.m s),ao (aM.af s),ao (aM.aq s),ao (aM.small s),ao (aM.gi s),ao (aM.gL s),aj (aM.high s)],aA] (Ex.ret) (e8 33) ([aA,au [aj (XS.op (fM s k)),aj (XS.w (fM s k)),aj (XS.ab (fM s k)),aj (XS.ae (fM s k)),aj (XS.aa (fM s k)),ao (XS.af (fM s k)),ao (XS.aq (fM s k)),aj (XS.cc (fM s k))],au [ao (↑(Xj (bD own)):Int)],au [ao 0],aA,Ob.lp Lk.ret ([uu,.ptr false 0 0,.ptr false 1 0,.ptr false 2 0,.ptr false 3 0]++e8 34) #[10] (dg X9 0) (de X9 0),aA,aA,aA]):=aJ.ai mixed ([tC (bT (Xl k1)),.dP (decide (0≤k∧k<(↑(32:Nat):Int))) true (by (simp only [cY] at*;omega)),.fX _ _ _ _ (@ot k k0 k1),.aD _ _ _ _ _ (@C4 s k k0 k1 v0 v1 hh (au [aZ 1 (bD b)]) (au [aj 0,aj 0,aj 0,aj 0,aj 0,ao 0,ao 0,aj 0]) (au [ao 0]) (au [ao 0]) (au [aZ 1 (bD b)]) (Ob.lp Lk.ready ([uu,.ptr false 0 0,.ptr false 1 0,.ptr false 2 0,.ptr false 3 0]++e8 34) #[10] (dg X9 0) (de X9 0)) (aA) (aA) (au [aj (aF k),av (bq k),aj (bW k)])),aw hy,tT,tT,tT,aW,aw hb,tT,tT,tT,tT,tT,tT]++ [tC (eT (by (simp only [cY] at*;omega):(decide ((↑(Xj (bD own)):Int)≤(↑(Xj (bD b)):Int)))=true)),tC (eT (by (simp only [cY] at*;omega):(decide ((↑(Xj (bD own)):Int)≤(↑(Xj (bD b)):Int)))=true)),tC (v:=true) (@B0 own),tC (eT (by (simp only [cY] at*;omega):(decide ((↑(Xj (bD own)):Int)≤(↑(Xj (bD b)):Int)))=true)),tC (eT (by (simp only [cY] at*;omega):(decide ((↑(Xj (bD own)):Int)≤(↑(Xj (bD b)):Int)))=true)),tC (eT (by (simp only [cY] at*;omega):(decide ((↑(Xj (bD own)):Int)≤(↑(Xj (bD b)):Int)))=true)),tC (eT (by (simp only [cY] at*;omega):(decide ((↑(Xj (bD own)):Int)≤(↑(Xj (bD b)):Int)))=true)),.dP (decide (0≤(↑(Xj (bD own)):Int)∧(↑(Xj (bD own)):Int)≤(↑(Xj (bD b)):Int))) true (by (simp only [cY] at*;omega)),tC (eT (by (simp only [cY] at*;omega):(decide ((↑(Xj (bD own)):Int)≤(↑(Xj (bD b)):Int)))=true)),tC (v:=true) (@jX b (Xi (↑(Xj (bD own)):Int))),tC (eT (by (simp only [cY] at*;omega):(decide ((↑(Xj (bD own)):Int)≤(↑(Xj (bD b)):Int)))=true)),tC (by (simp only [cY] at*;omega):(decide ((↑(Xj (bD own)):Int)≤(↑(Xj (bD b)):Int)))=true),tC hs,tT,tT,tT]) (by kernel_rfl)
end Go.Proofs.YtbfpahigdpigpaaGreat
