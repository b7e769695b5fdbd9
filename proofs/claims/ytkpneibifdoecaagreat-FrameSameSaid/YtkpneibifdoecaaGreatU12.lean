import Derived.Test.YtkpneibifdoecaaGreatU05
import Derived.Test.YtkpneibifdoecaaGreatU11
open List renaming replicate→Vc
open BitVec renaming ofInt→Vh,toNat→Vy
open Bool renaming eq_iff_iff→Vn,false_eq_true→V5
open Go renaming IntKind→WO
/- Contracts and plain laws that a statement's proof leans on (texts merged:XMay1,XMay2,XMay3,XMayA,XS1,XRef0,XRef1,XRef2,XRef3,XRef4,XRefA,XS2,XRW,XRD). -/
set_option linter.unusedVariables false
set_option linter.unusedSimpArgs false
set_option maxRecDepth 100000
set_option maxHeartbeats 8000000
namespace Go.Proofs.YtkpneibifdoecaaGreat
open Go Go.Ev
def qp (Pf:Int):Prop:= ∀(op w dst src base aa ai cc:Int) (ho:op≤127) (h:(aR op==Pf)=true) (O3:decide (0≤op∧op≤31)=true),aZ Tryz.prog 71 ([xD op w dst src base aa ai cc]) (.bool (aA op w dst src base aa ai cc))
theorem A7:qp 3:=by
 intro op w dst src base aa ai cc ho h O3
 have c0:= @aN op ho
 rw [eq_of_beq h] at c0
 generalize g2:cr op=r1 at c0
 generalize g4:dV op=r3 at c0
 have c5:= @Co op w dst src base aa ai cc 3 (rfl:true=true)
 let E1:EL:=([.ret _ _ _ c0]++Vc 4 (tC (eF (nt O3)))++ [.ret _ _ _ c5,tC (eF (nt O3)),tC (eF (nt O3)),.flat _ _ dP,tC (nt O3)])
 rcases de (ae [.int .i8 0,.int .i8 0,.int .i8 0,.int .i8 src,.int .i8 base,.int .i64 aa,.int .i64 0,.int .i8 cc] [.int .i8 0,.int .i8 0,.int .i8 0,.int .i8 0,.int .i8 0,.int .i64 0,.int .i64 0,.int .i8 0]) with h6|h6
 ·have c7:= @cU dst
  generalize g9:ay dst=r8 at c7
  let E2:EL:=E1++Vc 3 (tC (eF (nt h6)))++ [.ret _ _ _ c7,tC (eF (nt h6)),tC (nt h6)]
  cases r8
  ·exact (dh (d:= .bool false) (E2++ [tF,tF,tF,tF,tT,tF,tF,tF,tF,tT,tF,tF,tF,tF,tT,tF,tF,tF,tF,tT,tT]) (by kernel_rfl)).to (by clear E1 E2;(try simp only [cJ,wk,aB,aK,ae,ak,aA,ay,aG,au,an,ax,bb] at*);(simp [wk,aB,aK,ae,ak,aA,ay,aG,au,an,ax,bb, *];done))
  have Pg:= @cU src
  generalize g12:ay src=O9 at Pg
  let E3:EL:=E2++ [tT,tT,tT,.ret _ _ _ Pg,tT,tF]
  cases O9
  ·exact (dh (d:= .bool false) (E3++ [tF,tF,tF,tF,tT,tF,tF,tF,tF,tT,tF,tF,tF,tF,tT,tT]) (by kernel_rfl)).to (by clear E1 E2 E3;(try simp only [cJ,wk,aB,aK,ae,ak,aA,ay,aG,au,an,ax,bb] at*);(simp [wk,aB,aK,ae,ak,aA,ay,aG,au,an,ax,bb, *];done))
  have Pr:= @cU base
  generalize g15:ay base=P4 at Pr
  let E4:EL:=E3++ [tT,tT,tT,.ret _ _ _ Pr,tT,tF]
  cases P4
  ·exact (dh (d:= .bool false) (E4++ [tF,tF,tF,tF,tT,tF,tF,tF,tF,tT,tT]) (by kernel_rfl)).to (by clear E1 E2 E3 E4;(try simp only [cJ,wk,aB,aK,ae,ak,aA,ay,aG,au,an,ax,bb] at*);(simp [wk,aB,aK,ae,ak,aA,ay,aG,au,an,ax,bb, *];done))
  have PQ:= @br aa (-2147483648) 2147483647
  let E5:EL:=E4++ [tT,tT,tT,.ret _ _ _ PQ,tT,tF]
  rcases de (decide (aa<(-2147483648))) with h17|h17
  ·exact (dh (d:= .bool false) (E5++Vc 4 (tC (eF (nt (bj (y:=decide (aa≤2147483647)) (bk (-2147483648) h17)))))++ [tC (nt (bj (y:=decide (aa≤2147483647)) (bk (-2147483648) h17))),tT]) (by kernel_rfl)).to (by clear E1 E2 E3 E4 E5;(try simp only [cJ,wk,aB,aK,ae,ak,aA,ay,aG,au,an,ax,bb] at*);(simp [wk,aB,aK,ae,ak,aA,ay,aG,au,an,ax,bb, *];omega))
  rcases de (decide (aa<2147483648)) with h18|h18
  ·have Qc:= @br ai (-2147483648) 2147483647
   let E6:EL:=E5++Vc 3 (tC (eF (nt (aD (bk (-2147483648) h17) (cY 2147483647 h18)))))++ [.ret _ _ _ Qc,tC (eF (nt (aD (bk (-2147483648) h17) (cY 2147483647 h18)))),tC (nt (aD (bk (-2147483648) h17) (cY 2147483647 h18)))]
   rcases de (decide (ai<(-2147483648))) with h20|h20
   ·exact (dh (d:= .bool false) (E6++ [tC (nt (bj (y:=decide (ai≤2147483647)) (bk (-2147483648) h20)))]) (by kernel_rfl)).to (by clear E1 E2 E3 E4 E5 E6;(try simp only [cJ,wk,aB,aK,ae,ak,aA,ay,aG,au,an,ax,bb] at*);(simp [wk,aB,aK,ae,ak,aA,ay,aG,au,an,ax,bb, *];omega))
   rcases de (decide (ai<2147483648)) with h21|h21
   ·let E7:EL:=E6++ [tC (nt (aD (bk (-2147483648) h20) (cY 2147483647 h21)))]
    by_cases h22:w=32
    ·subst h22
     exact (dh (d:= .bool true) (E7++ [tF,tF,tF,tT,tF,tF,tF,tF,tF,tT,tF,tF,tT,tT]) (by kernel_rfl)).to (by clear E1 E2 E3 E4 E5 E6 E7;(try simp only [cJ,wk,aB,aK,ae,ak,aA,ay,aG,au,an,ax,bb] at*);(rw [Vn];simp [wk,aB,aK,ae,ak,aA,ay,aG,au,an,ax,bb, *];grind))
    let E8:EL:=E7++Vc 3 (tC (eF (aL h22)))++ [tC (aL h22)]++Vc 4 (tC (eF (aL h22)))
    by_cases h23:w=8
    ·subst h23
     have QV:= @br ai (-128) 127
     exact (dh (d:= .bool false) (E8++ [tT,tT,tT,.ret _ _ _ QV,tT,tT,tF,tF,tF,tT,tT]) (by kernel_rfl)).to (by clear E1 E2 E3 E4 E5 E6 E7 E8;(try simp only [cJ,wk,aB,aK,ae,ak,aA,ay,aG,au,an,ax,bb] at*);(simp [wk,aB,aK,ae,ak,aA,ay,aG,au,an,ax,bb, *];done))
    exact (dh (d:= .bool (w==64)) (E8++Vc 3 (tC (eT (aL h23)))++ [tC (eF (aL h22)),tC (aL h23),tC (aL h22),tF,tF,tT,tT]) (by kernel_rfl)).to (by clear E1 E2 E3 E4 E5 E6 E7 E8;(try simp only [cJ,wk,aB,aK,ae,ak,aA,ay,aG,au,an,ax,bb] at*);(rw [Vn];simp [wk,aB,aK,ae,ak,aA,ay,aG,au,an,ax,bb, *];grind))
   exact (dh (d:= .bool false) (E6++ [tC (nt (aD (bk (-2147483648) h20) (cY 2147483647 h21)))]) (by kernel_rfl)).to (by clear E1 E2 E3 E4 E5 E6;(try simp only [cJ,wk,aB,aK,ae,ak,aA,ay,aG,au,an,ax,bb] at*);(simp [wk,aB,aK,ae,ak,aA,ay,aG,au,an,ax,bb, *];omega))
  exact (dh (d:= .bool false) (E5++Vc 4 (tC (eF (nt (aD (bk (-2147483648) h17) (cY 2147483647 h18)))))++ [tC (nt (aD (bk (-2147483648) h17) (cY 2147483647 h18))),tT]) (by kernel_rfl)).to (by clear E1 E2 E3 E4 E5;(try simp only [cJ,wk,aB,aK,ae,ak,aA,ay,aG,au,an,ax,bb] at*);(simp [wk,aB,aK,ae,ak,aA,ay,aG,au,an,ax,bb, *];omega))
 exact (dh (d:= .bool false) (E1++Vc 4 (tC (eF (nt h6)))++ [tC (nt h6),tF,tF,tF,tF,tT,tF,tF,tF,tF,tT,tF,tF,tF,tF,tT,tF,tF,tF,tF,tT,tT]) (by kernel_rfl)).to (by clear E1;(try simp only [cJ,wk,aB,aK,ae,ak,aA,ay,aG,au,an,ax,bb] at*);(rw [Vn];simp [wk,aB,aK,ae,ak,aA,ay,aG,au,an,ax,bb, *];grind))
theorem A6:qp 4:=by
 intro op w dst src base aa ai cc ho h O3
 have c0:= @aN op ho
 rw [eq_of_beq h] at c0
 generalize g2:cr op=r1 at c0
 generalize g4:dV op=r3 at c0
 have c5:= @Cn op w dst src base aa ai cc 4 (rfl:true=true)
 let E1:EL:=([.ret _ _ _ c0]++Vc 4 (tC (eF (nt O3)))++ [.ret _ _ _ c5,tC (eF (nt O3)),tC (eF (nt O3)),.flat _ _ dP,tC (nt O3)])
 rcases de (ae [.int .i8 0,.int .i8 0,.int .i8 0,.int .i8 src,.int .i8 base,.int .i64 aa,.int .i64 0,.int .i8 cc] [.int .i8 0,.int .i8 0,.int .i8 0,.int .i8 0,.int .i8 0,.int .i64 0,.int .i64 0,.int .i8 0]) with h6|h6
 ·have c7:= @cU dst
  generalize g9:ay dst=r8 at c7
  let E2:EL:=E1++Vc 3 (tC (eF (nt h6)))++ [.ret _ _ _ c7,tC (eF (nt h6)),tC (nt h6)]
  cases r8
  ·exact (dh (d:= .bool false) (E2++ [tF,tF,tF,tF,tT,tF,tF,tF,tF,tT,tF,tF,tF,tF,tT,tF,tF,tF,tF,tT,tT]) (by kernel_rfl)).to (by clear E1 E2;(try simp only [cJ,wk,aB,aK,ae,ak,aA,ay,aG,au,an,ax,bb] at*);(simp [wk,aB,aK,ae,ak,aA,ay,aG,au,an,ax,bb, *];done))
  have Pg:= @cU src
  generalize g12:ay src=O9 at Pg
  let E3:EL:=E2++ [tT,tT,tT,.ret _ _ _ Pg,tT,tF]
  cases O9
  ·exact (dh (d:= .bool false) (E3++ [tF,tF,tF,tF,tT,tF,tF,tF,tF,tT,tF,tF,tF,tF,tT,tT]) (by kernel_rfl)).to (by clear E1 E2 E3;(try simp only [cJ,wk,aB,aK,ae,ak,aA,ay,aG,au,an,ax,bb] at*);(simp [wk,aB,aK,ae,ak,aA,ay,aG,au,an,ax,bb, *];done))
  have Pr:= @cU base
  generalize g15:ay base=P4 at Pr
  let E4:EL:=E3++ [tT,tT,tT,.ret _ _ _ Pr,tT,tF]
  cases P4
  ·exact (dh (d:= .bool false) (E4++ [tF,tF,tF,tF,tT,tF,tF,tF,tF,tT,tT]) (by kernel_rfl)).to (by clear E1 E2 E3 E4;(try simp only [cJ,wk,aB,aK,ae,ak,aA,ay,aG,au,an,ax,bb] at*);(simp [wk,aB,aK,ae,ak,aA,ay,aG,au,an,ax,bb, *];done))
  have PQ:= @br aa (-2147483648) 2147483647
  let E5:EL:=E4++ [tT,tT,tT,.ret _ _ _ PQ,tT,tF]
  rcases de (decide (aa<(-2147483648))) with h17|h17
  ·exact (dh (d:= .bool false) (E5++Vc 4 (tC (eF (nt (bj (y:=decide (aa≤2147483647)) (bk (-2147483648) h17)))))++ [tC (nt (bj (y:=decide (aa≤2147483647)) (bk (-2147483648) h17))),tT]) (by kernel_rfl)).to (by clear E1 E2 E3 E4 E5;(try simp only [cJ,wk,aB,aK,ae,ak,aA,ay,aG,au,an,ax,bb] at*);(simp [wk,aB,aK,ae,ak,aA,ay,aG,au,an,ax,bb, *];omega))
  rcases de (decide (aa<2147483648)) with h18|h18
  ·have Qc:= @br ai (-2147483648) 2147483647
   let E6:EL:=E5++Vc 3 (tC (eF (nt (aD (bk (-2147483648) h17) (cY 2147483647 h18)))))++ [.ret _ _ _ Qc,tC (eF (nt (aD (bk (-2147483648) h17) (cY 2147483647 h18)))),tC (nt (aD (bk (-2147483648) h17) (cY 2147483647 h18)))]
   rcases de (decide (ai<(-2147483648))) with h20|h20
   ·exact (dh (d:= .bool false) (E6++ [tC (nt (bj (y:=decide (ai≤2147483647)) (bk (-2147483648) h20)))]) (by kernel_rfl)).to (by clear E1 E2 E3 E4 E5 E6;(try simp only [cJ,wk,aB,aK,ae,ak,aA,ay,aG,au,an,ax,bb] at*);(simp [wk,aB,aK,ae,ak,aA,ay,aG,au,an,ax,bb, *];omega))
   rcases de (decide (ai<2147483648)) with h21|h21
   ·let E7:EL:=E6++ [tC (nt (aD (bk (-2147483648) h20) (cY 2147483647 h21)))]
    by_cases h22:w=32
    ·subst h22
     have QS:= @br ai 0 31
     exact (dh (d:= .bool (decide (0≤ai)&&decide (ai≤31))) (E7++ [tF,tF,tF,tT,tF,tF,tF,tF,tF,tT,tF,tF,tF,tF]++Vc 8 tT++ [.ret _ _ _ QS,tT]) (by kernel_rfl)).to (by clear E1 E2 E3 E4 E5 E6 E7;(try simp only [cJ,wk,aB,aK,ae,ak,aA,ay,aG,au,an,ax,bb] at*);(rw [Vn];simp [wk,aB,aK,ae,ak,aA,ay,aG,au,an,ax,bb, *];grind))
    let E8:EL:=E7++Vc 3 (tC (eF (aL h22)))++ [tC (aL h22)]++Vc 4 (tC (eF (aL h22)))
    by_cases h24:w=8
    ·subst h24
     have RW:= @br ai (-128) 127
     exact (dh (d:= .bool false) (E8++ [tT,tT,tT,.ret _ _ _ RW,tT,tT,tF,tF,tF,tF,tF,tT]++Vc 8 tF) (by kernel_rfl)).to (by clear E1 E2 E3 E4 E5 E6 E7 E8;(try simp only [cJ,wk,aB,aK,ae,ak,aA,ay,aG,au,an,ax,bb] at*);(simp [wk,aB,aK,ae,ak,aA,ay,aG,au,an,ax,bb, *];done))
    let E9:EL:=E8++Vc 3 (tC (eT (aL h24)))++ [tC (eF (aL h22)),tC (aL h24),tC (aL h22),tF,tF,tF,tF,tT]
    by_cases QE:w=64
    ·subst QE
     have Qz:= @br ai 0 63
     exact (dh (d:= .bool (decide (0≤ai)&&decide (ai≤63))) (E9++ [tT,tT,tT,tT,tT,tT,tT,.ret _ _ _ Qz,tT]) (by kernel_rfl)).to (by clear E1 E2 E3 E4 E5 E6 E7 E8 E9;(try simp only [cJ,wk,aB,aK,ae,ak,aA,ay,aG,au,an,ax,bb] at*);(rw [Vn];simp [wk,aB,aK,ae,ak,aA,ay,aG,au,an,ax,bb, *];grind))
    exact (dh (d:= .bool false) (E9++Vc 7 (tC (eT (aL QE)))++ [tC (aL QE)]) (by kernel_rfl)).to (by clear E1 E2 E3 E4 E5 E6 E7 E8 E9;(try simp only [cJ,wk,aB,aK,ae,ak,aA,ay,aG,au,an,ax,bb] at*);(simp [wk,aB,aK,ae,ak,aA,ay,aG,au,an,ax,bb, *];done))
   exact (dh (d:= .bool false) (E6++ [tC (nt (aD (bk (-2147483648) h20) (cY 2147483647 h21)))]) (by kernel_rfl)).to (by clear E1 E2 E3 E4 E5 E6;(try simp only [cJ,wk,aB,aK,ae,ak,aA,ay,aG,au,an,ax,bb] at*);(simp [wk,aB,aK,ae,ak,aA,ay,aG,au,an,ax,bb, *];omega))
  exact (dh (d:= .bool false) (E5++Vc 4 (tC (eF (nt (aD (bk (-2147483648) h17) (cY 2147483647 h18)))))++ [tC (nt (aD (bk (-2147483648) h17) (cY 2147483647 h18))),tT]) (by kernel_rfl)).to (by clear E1 E2 E3 E4 E5;(try simp only [cJ,wk,aB,aK,ae,ak,aA,ay,aG,au,an,ax,bb] at*);(simp [wk,aB,aK,ae,ak,aA,ay,aG,au,an,ax,bb, *];omega))
 exact (dh (d:= .bool false) (E1++Vc 4 (tC (eF (nt h6)))++ [tC (nt h6),tF,tF,tF,tF,tT,tF,tF,tF,tF,tT,tF,tF,tF,tF,tT,tF,tF,tF,tF,tT,tT]) (by kernel_rfl)).to (by clear E1;(try simp only [cJ,wk,aB,aK,ae,ak,aA,ay,aG,au,an,ax,bb] at*);(rw [Vn];simp [wk,aB,aK,ae,ak,aA,ay,aG,au,an,ax,bb, *];grind))
theorem A5:qp 5:=by
 intro op w dst src base aa ai cc ho h O3
 have c0:= @aN op ho
 rw [eq_of_beq h] at c0
 generalize g2:cr op=r1 at c0
 generalize g4:dV op=r3 at c0
 have c5:= @Cm op w dst src base aa ai cc 5 (rfl:true=true)
 let E1:EL:=([.ret _ _ _ c0]++Vc 4 (tC (eF (nt O3)))++ [.ret _ _ _ c5,tC (eF (nt O3)),tC (eF (nt O3)),.flat _ _ dP,tC (nt O3)])
 rcases de (ae [.int .i8 0,.int .i8 0,.int .i8 0,.int .i8 src,.int .i8 base,.int .i64 aa,.int .i64 ai,.int .i8 cc] [.int .i8 0,.int .i8 0,.int .i8 0,.int .i8 0,.int .i8 0,.int .i64 0,.int .i64 0,.int .i8 0]) with h6|h6
 ·have c7:= @cU dst
  generalize g9:ay dst=r8 at c7
  let E2:EL:=E1++Vc 3 (tC (eF (nt h6)))++ [.ret _ _ _ c7,tC (eF (nt h6)),tC (nt h6)]
  cases r8
  ·exact (dh (d:= .bool false) (E2++ [tF,tF,tF,tF,tT,tF,tF,tF,tF,tT,tF,tF,tF,tF,tT,tF,tF,tF,tF,tT,tT]) (by kernel_rfl)).to (by clear E1 E2;(try simp only [cJ,wk,aB,aK,ae,ak,aA,ay,aG,au,an,ax,bb] at*);(simp [wk,aB,aK,ae,ak,aA,ay,aG,au,an,ax,bb, *];done))
  have Pg:= @cU src
  generalize g12:ay src=O9 at Pg
  let E3:EL:=E2++ [tT,tT,tT,.ret _ _ _ Pg,tT,tF]
  cases O9
  ·exact (dh (d:= .bool false) (E3++ [tF,tF,tF,tF,tT,tF,tF,tF,tF,tT,tF,tF,tF,tF,tT,tT]) (by kernel_rfl)).to (by clear E1 E2 E3;(try simp only [cJ,wk,aB,aK,ae,ak,aA,ay,aG,au,an,ax,bb] at*);(simp [wk,aB,aK,ae,ak,aA,ay,aG,au,an,ax,bb, *];done))
  have Pr:= @cU base
  generalize g15:ay base=P4 at Pr
  let E4:EL:=E3++ [tT,tT,tT,.ret _ _ _ Pr,tT,tF]
  cases P4
  ·exact (dh (d:= .bool false) (E4++ [tF,tF,tF,tF,tT,tF,tF,tF,tF,tT,tT]) (by kernel_rfl)).to (by clear E1 E2 E3 E4;(try simp only [cJ,wk,aB,aK,ae,ak,aA,ay,aG,au,an,ax,bb] at*);(simp [wk,aB,aK,ae,ak,aA,ay,aG,au,an,ax,bb, *];done))
  have PQ:= @br aa (-2147483648) 2147483647
  let E5:EL:=E4++ [tT,tT,tT,.ret _ _ _ PQ,tT,tF]
  rcases de (decide (aa<(-2147483648))) with h17|h17
  ·exact (dh (d:= .bool false) (E5++Vc 4 (tC (eF (nt (bj (y:=decide (aa≤2147483647)) (bk (-2147483648) h17)))))++ [tC (nt (bj (y:=decide (aa≤2147483647)) (bk (-2147483648) h17))),tT]) (by kernel_rfl)).to (by clear E1 E2 E3 E4 E5;(try simp only [cJ,wk,aB,aK,ae,ak,aA,ay,aG,au,an,ax,bb] at*);(simp [wk,aB,aK,ae,ak,aA,ay,aG,au,an,ax,bb, *];omega))
  rcases de (decide (aa<2147483648)) with h18|h18
  ·have Qc:= @br ai (-2147483648) 2147483647
   let E6:EL:=E5++Vc 3 (tC (eF (nt (aD (bk (-2147483648) h17) (cY 2147483647 h18)))))++ [.ret _ _ _ Qc,tC (eF (nt (aD (bk (-2147483648) h17) (cY 2147483647 h18)))),tC (nt (aD (bk (-2147483648) h17) (cY 2147483647 h18)))]
   rcases de (decide (ai<(-2147483648))) with h20|h20
   ·exact (dh (d:= .bool false) (E6++ [tC (nt (bj (y:=decide (ai≤2147483647)) (bk (-2147483648) h20)))]) (by kernel_rfl)).to (by clear E1 E2 E3 E4 E5 E6;(try simp only [cJ,wk,aB,aK,ae,ak,aA,ay,aG,au,an,ax,bb] at*);(simp [wk,aB,aK,ae,ak,aA,ay,aG,au,an,ax,bb, *];omega))
   rcases de (decide (ai<2147483648)) with h21|h21
   ·let E7:EL:=E6++ [tC (nt (aD (bk (-2147483648) h20) (cY 2147483647 h21)))]
    by_cases h22:w=32
    ·subst h22
     exact (dh (d:= .bool true) (E7++ [tF,tF,tF,tT,tF,tF,tF,tF,tF,tT,tF,tF,tF,tT]) (by kernel_rfl)).to (by clear E1 E2 E3 E4 E5 E6 E7;(try simp only [cJ,wk,aB,aK,ae,ak,aA,ay,aG,au,an,ax,bb] at*);(rw [Vn];simp [wk,aB,aK,ae,ak,aA,ay,aG,au,an,ax,bb, *];grind))
    let E8:EL:=E7++Vc 3 (tC (eF (aL h22)))++ [tC (aL h22)]++Vc 4 (tC (eF (aL h22)))
    by_cases h23:w=8
    ·subst h23
     have QV:= @br ai (-128) 127
     exact (dh (d:= .bool false) (E8++ [tT,tT,tT,.ret _ _ _ QV,tT,tT,tF,tF,tF,tF,tT]) (by kernel_rfl)).to (by clear E1 E2 E3 E4 E5 E6 E7 E8;(try simp only [cJ,wk,aB,aK,ae,ak,aA,ay,aG,au,an,ax,bb] at*);(simp [wk,aB,aK,ae,ak,aA,ay,aG,au,an,ax,bb, *];done))
    exact (dh (d:= .bool (w==64)) (E8++Vc 3 (tC (eT (aL h23)))++ [tC (eF (aL h22)),tC (aL h23),tC (aL h22),tF,tF,tF,tT]) (by kernel_rfl)).to (by clear E1 E2 E3 E4 E5 E6 E7 E8;(try simp only [cJ,wk,aB,aK,ae,ak,aA,ay,aG,au,an,ax,bb] at*);(rw [Vn];simp [wk,aB,aK,ae,ak,aA,ay,aG,au,an,ax,bb, *];grind))
   exact (dh (d:= .bool false) (E6++ [tC (nt (aD (bk (-2147483648) h20) (cY 2147483647 h21)))]) (by kernel_rfl)).to (by clear E1 E2 E3 E4 E5 E6;(try simp only [cJ,wk,aB,aK,ae,ak,aA,ay,aG,au,an,ax,bb] at*);(simp [wk,aB,aK,ae,ak,aA,ay,aG,au,an,ax,bb, *];omega))
  exact (dh (d:= .bool false) (E5++Vc 4 (tC (eF (nt (aD (bk (-2147483648) h17) (cY 2147483647 h18)))))++ [tC (nt (aD (bk (-2147483648) h17) (cY 2147483647 h18))),tT]) (by kernel_rfl)).to (by clear E1 E2 E3 E4 E5;(try simp only [cJ,wk,aB,aK,ae,ak,aA,ay,aG,au,an,ax,bb] at*);(simp [wk,aB,aK,ae,ak,aA,ay,aG,au,an,ax,bb, *];omega))
 exact (dh (d:= .bool false) (E1++Vc 4 (tC (eF (nt h6)))++ [tC (nt h6),tF,tF,tF,tF,tT,tF,tF,tF,tF,tT,tF,tF,tF,tF,tT,tF,tF,tF,tF,tT,tT]) (by kernel_rfl)).to (by clear E1;(try simp only [cJ,wk,aB,aK,ae,ak,aA,ay,aG,au,an,ax,bb] at*);(rw [Vn];simp [wk,aB,aK,ae,ak,aA,ay,aG,au,an,ax,bb, *];grind))
def qo (Pf:Int):Prop:= ∀(op w dst src base aa ai cc:Int) (ho:op≤127) (h:(aR op==Pf)=true) (O3:decide (0≤op∧op≤31)=true),aZ Tryz.prog 71 ([xD op w dst src base aa ai cc]) (.bool (aA op w dst src base aa ai cc))
theorem A4:qo 6:=by
 intro op w dst src base aa ai cc ho h O3
 have c0:= @aN op ho
 rw [eq_of_beq h] at c0
 generalize g2:cr op=r1 at c0
 generalize g4:dV op=r3 at c0
 have c5:= @Cl op w dst src base aa ai cc 6 (rfl:true=true)
 let E1:EL:=([.ret _ _ _ c0]++Vc 4 (tC (eF (nt O3)))++ [.ret _ _ _ c5,tC (eF (nt O3)),tC (eF (nt O3)),.flat _ _ dP,tC (nt O3)])
 rcases de (ae [.int .i8 0,.int .i8 0,.int .i8 0,.int .i8 0,.int .i8 base,.int .i64 aa,.int .i64 ai,.int .i8 0] [.int .i8 0,.int .i8 0,.int .i8 0,.int .i8 0,.int .i8 0,.int .i64 0,.int .i64 0,.int .i8 0]) with h6|h6
 ·have c7:= @cU dst
  generalize g9:ay dst=r8 at c7
  let E2:EL:=E1++Vc 3 (tC (eF (nt h6)))++ [.ret _ _ _ c7,tC (eF (nt h6)),tC (nt h6)]
  cases r8
  ·exact (dh (d:= .bool false) (E2++ [tF,tF,tF,tF,tT,tF,tF,tF,tF,tT,tF,tF,tF,tF,tT,tF,tF,tF,tF,tT,tT]) (by kernel_rfl)).to (by clear E1 E2;(try simp only [cJ,wk,aB,aK,ae,ak,aA,ay,aG,au,an,ax,bb] at*);(simp [wk,aB,aK,ae,ak,aA,ay,aG,au,an,ax,bb, *];done))
  have Pg:= @cU src
  generalize g12:ay src=O9 at Pg
  let E3:EL:=E2++ [tT,tT,tT,.ret _ _ _ Pg,tT,tF]
  cases O9
  ·exact (dh (d:= .bool false) (E3++ [tF,tF,tF,tF,tT,tF,tF,tF,tF,tT,tF,tF,tF,tF,tT,tT]) (by kernel_rfl)).to (by clear E1 E2 E3;(try simp only [cJ,wk,aB,aK,ae,ak,aA,ay,aG,au,an,ax,bb] at*);(simp [wk,aB,aK,ae,ak,aA,ay,aG,au,an,ax,bb, *];done))
  have Pr:= @cU base
  generalize g15:ay base=P4 at Pr
  let E4:EL:=E3++ [tT,tT,tT,.ret _ _ _ Pr,tT,tF]
  cases P4
  ·exact (dh (d:= .bool false) (E4++ [tF,tF,tF,tF,tT,tF,tF,tF,tF,tT,tT]) (by kernel_rfl)).to (by clear E1 E2 E3 E4;(try simp only [cJ,wk,aB,aK,ae,ak,aA,ay,aG,au,an,ax,bb] at*);(simp [wk,aB,aK,ae,ak,aA,ay,aG,au,an,ax,bb, *];done))
  have PQ:= @br aa (-2147483648) 2147483647
  let E5:EL:=E4++ [tT,tT,tT,.ret _ _ _ PQ,tT,tF]
  rcases de (decide (aa<(-2147483648))) with h17|h17
  ·exact (dh (d:= .bool false) (E5++Vc 4 (tC (eF (nt (bj (y:=decide (aa≤2147483647)) (bk (-2147483648) h17)))))++ [tC (nt (bj (y:=decide (aa≤2147483647)) (bk (-2147483648) h17))),tT]) (by kernel_rfl)).to (by clear E1 E2 E3 E4 E5;(try simp only [cJ,wk,aB,aK,ae,ak,aA,ay,aG,au,an,ax,bb] at*);(simp [wk,aB,aK,ae,ak,aA,ay,aG,au,an,ax,bb, *];omega))
  rcases de (decide (aa<2147483648)) with h18|h18
  ·have Qc:= @br ai (-2147483648) 2147483647
   let E6:EL:=E5++Vc 3 (tC (eF (nt (aD (bk (-2147483648) h17) (cY 2147483647 h18)))))++ [.ret _ _ _ Qc,tC (eF (nt (aD (bk (-2147483648) h17) (cY 2147483647 h18)))),tC (nt (aD (bk (-2147483648) h17) (cY 2147483647 h18)))]
   rcases de (decide (ai<(-2147483648))) with h20|h20
   ·exact (dh (d:= .bool false) (E6++ [tC (nt (bj (y:=decide (ai≤2147483647)) (bk (-2147483648) h20)))]) (by kernel_rfl)).to (by clear E1 E2 E3 E4 E5 E6;(try simp only [cJ,wk,aB,aK,ae,ak,aA,ay,aG,au,an,ax,bb] at*);(simp [wk,aB,aK,ae,ak,aA,ay,aG,au,an,ax,bb, *];omega))
   rcases de (decide (ai<2147483648)) with h21|h21
   ·let E7:EL:=E6++ [tC (nt (aD (bk (-2147483648) h20) (cY 2147483647 h21)))]
    by_cases h22:w=32
    ·subst h22
     have QS:= @oI cc
     generalize g25:bb cc=r24 at QS
     exact (dh (d:= .bool r24) (E7++ [tF,tF,tF,tT,tF,tF,tF,tF,tF,tT,tF,tF,tF,tF,tF,tT,tT,tT,tT,.ret _ _ _ QS,tT]) (by kernel_rfl)).to (by clear E1 E2 E3 E4 E5 E6 E7;(try simp only [cJ,wk,aB,aK,ae,ak,aA,ay,aG,au,an,ax,bb] at*);(rw [Vn];simp [wk,aB,aK,ae,ak,aA,ay,aG,au,an,ax,bb, *];grind))
    let E8:EL:=E7++Vc 3 (tC (eF (aL h22)))++ [tC (aL h22)]++Vc 4 (tC (eF (aL h22)))
    by_cases QE:w=8
    ·subst QE
     have Qz:= @br ai (-128) 127
     exact (dh (d:= .bool false) (E8++ [tT,tT,tT,.ret _ _ _ Qz,tT,tT,tF,tF,tF,tF,tF,tF,tT,tF,tF,tF,tF]) (by kernel_rfl)).to (by clear E1 E2 E3 E4 E5 E6 E7 E8;(try simp only [cJ,wk,aB,aK,ae,ak,aA,ay,aG,au,an,ax,bb] at*);(simp [wk,aB,aK,ae,ak,aA,ay,aG,au,an,ax,bb, *];done))
    let E9:EL:=E8++Vc 3 (tC (eT (aL QE)))++ [tC (eF (aL h22)),tC (aL QE),tC (aL h22),tF,tF,tF,tF,tF,tT]
    by_cases QW:w=64
    ·subst QW
     have SP:= @oI cc
     generalize g31:bb cc=r30 at SP
     exact (dh (d:= .bool r30) (E9++ [tT,tT,tT,.ret _ _ _ SP,tT]) (by kernel_rfl)).to (by clear E1 E2 E3 E4 E5 E6 E7 E8 E9;(try simp only [cJ,wk,aB,aK,ae,ak,aA,ay,aG,au,an,ax,bb] at*);(rw [Vn];simp [wk,aB,aK,ae,ak,aA,ay,aG,au,an,ax,bb, *];grind))
    exact (dh (d:= .bool false) (E9++Vc 3 (tC (eT (aL QW)))++ [tC (aL QW)]) (by kernel_rfl)).to (by clear E1 E2 E3 E4 E5 E6 E7 E8 E9;(try simp only [cJ,wk,aB,aK,ae,ak,aA,ay,aG,au,an,ax,bb] at*);(simp [wk,aB,aK,ae,ak,aA,ay,aG,au,an,ax,bb, *];done))
   exact (dh (d:= .bool false) (E6++ [tC (nt (aD (bk (-2147483648) h20) (cY 2147483647 h21)))]) (by kernel_rfl)).to (by clear E1 E2 E3 E4 E5 E6;(try simp only [cJ,wk,aB,aK,ae,ak,aA,ay,aG,au,an,ax,bb] at*);(simp [wk,aB,aK,ae,ak,aA,ay,aG,au,an,ax,bb, *];omega))
  exact (dh (d:= .bool false) (E5++Vc 4 (tC (eF (nt (aD (bk (-2147483648) h17) (cY 2147483647 h18)))))++ [tC (nt (aD (bk (-2147483648) h17) (cY 2147483647 h18))),tT]) (by kernel_rfl)).to (by clear E1 E2 E3 E4 E5;(try simp only [cJ,wk,aB,aK,ae,ak,aA,ay,aG,au,an,ax,bb] at*);(simp [wk,aB,aK,ae,ak,aA,ay,aG,au,an,ax,bb, *];omega))
 exact (dh (d:= .bool false) (E1++Vc 4 (tC (eF (nt h6)))++ [tC (nt h6),tF,tF,tF,tF,tT,tF,tF,tF,tF,tT,tF,tF,tF,tF,tT,tF,tF,tF,tF,tT,tT]) (by kernel_rfl)).to (by clear E1;(try simp only [cJ,wk,aB,aK,ae,ak,aA,ay,aG,au,an,ax,bb] at*);(rw [Vn];simp [wk,aB,aK,ae,ak,aA,ay,aG,au,an,ax,bb, *];grind))
theorem A3:qo 7:=by
 intro op w dst src base aa ai cc ho h O3
 have c0:= @aN op ho
 rw [eq_of_beq h] at c0
 generalize g2:cr op=r1 at c0
 generalize g4:dV op=r3 at c0
 have c5:= @Ck op w dst src base aa ai cc 7 (rfl:true=true)
 let E1:EL:=([.ret _ _ _ c0]++Vc 4 (tC (eF (nt O3)))++ [.ret _ _ _ c5,tC (eF (nt O3)),tC (eF (nt O3)),.flat _ _ dP,tC (nt O3)])
 rcases de (ae [.int .i8 0,.int .i8 0,.int .i8 0,.int .i8 src,.int .i8 0,.int .i64 0,.int .i64 ai,.int .i8 cc] [.int .i8 0,.int .i8 0,.int .i8 0,.int .i8 0,.int .i8 0,.int .i64 0,.int .i64 0,.int .i8 0]) with h6|h6
 ·have c7:= @cU dst
  generalize g9:ay dst=r8 at c7
  let E2:EL:=E1++Vc 3 (tC (eF (nt h6)))++ [.ret _ _ _ c7,tC (eF (nt h6)),tC (nt h6)]
  cases r8
  ·exact (dh (d:= .bool false) (E2++ [tF,tF,tF,tF,tT,tF,tF,tF,tF,tT,tF,tF,tF,tF,tT,tF,tF,tF,tF,tT,tT]) (by kernel_rfl)).to (by clear E1 E2;(try simp only [cJ,wk,aB,aK,ae,ak,aA,ay,aG,au,an,ax,bb] at*);(simp [wk,aB,aK,ae,ak,aA,ay,aG,au,an,ax,bb, *];done))
  have Pg:= @cU src
  generalize g12:ay src=O9 at Pg
  let E3:EL:=E2++ [tT,tT,tT,.ret _ _ _ Pg,tT,tF]
  cases O9
  ·exact (dh (d:= .bool false) (E3++ [tF,tF,tF,tF,tT,tF,tF,tF,tF,tT,tF,tF,tF,tF,tT,tT]) (by kernel_rfl)).to (by clear E1 E2 E3;(try simp only [cJ,wk,aB,aK,ae,ak,aA,ay,aG,au,an,ax,bb] at*);(simp [wk,aB,aK,ae,ak,aA,ay,aG,au,an,ax,bb, *];done))
  have Pr:= @cU base
  generalize g15:ay base=P4 at Pr
  let E4:EL:=E3++ [tT,tT,tT,.ret _ _ _ Pr,tT,tF]
  cases P4
  ·exact (dh (d:= .bool false) (E4++ [tF,tF,tF,tF,tT,tF,tF,tF,tF,tT,tT]) (by kernel_rfl)).to (by clear E1 E2 E3 E4;(try simp only [cJ,wk,aB,aK,ae,ak,aA,ay,aG,au,an,ax,bb] at*);(simp [wk,aB,aK,ae,ak,aA,ay,aG,au,an,ax,bb, *];done))
  have PQ:= @br aa (-2147483648) 2147483647
  let E5:EL:=E4++ [tT,tT,tT,.ret _ _ _ PQ,tT,tF]
  rcases de (decide (aa<(-2147483648))) with h17|h17
  ·exact (dh (d:= .bool false) (E5++Vc 4 (tC (eF (nt (bj (y:=decide (aa≤2147483647)) (bk (-2147483648) h17)))))++ [tC (nt (bj (y:=decide (aa≤2147483647)) (bk (-2147483648) h17))),tT]) (by kernel_rfl)).to (by clear E1 E2 E3 E4 E5;(try simp only [cJ,wk,aB,aK,ae,ak,aA,ay,aG,au,an,ax,bb] at*);(simp [wk,aB,aK,ae,ak,aA,ay,aG,au,an,ax,bb, *];omega))
  rcases de (decide (aa<2147483648)) with h18|h18
  ·have Qc:= @br ai (-2147483648) 2147483647
   let E6:EL:=E5++Vc 3 (tC (eF (nt (aD (bk (-2147483648) h17) (cY 2147483647 h18)))))++ [.ret _ _ _ Qc,tC (eF (nt (aD (bk (-2147483648) h17) (cY 2147483647 h18)))),tC (nt (aD (bk (-2147483648) h17) (cY 2147483647 h18)))]
   rcases de (decide (ai<(-2147483648))) with h20|h20
   ·exact (dh (d:= .bool false) (E6++ [tC (nt (bj (y:=decide (ai≤2147483647)) (bk (-2147483648) h20)))]) (by kernel_rfl)).to (by clear E1 E2 E3 E4 E5 E6;(try simp only [cJ,wk,aB,aK,ae,ak,aA,ay,aG,au,an,ax,bb] at*);(simp [wk,aB,aK,ae,ak,aA,ay,aG,au,an,ax,bb, *];omega))
   rcases de (decide (ai<2147483648)) with h21|h21
   ·let E7:EL:=E6++ [tC (nt (aD (bk (-2147483648) h20) (cY 2147483647 h21)))]
    by_cases h22:w=32
    ·subst h22
     have QS:= @je 32
     exact (dh (d:= .bool true) (E7++ [tF,tF,tF,tT,tF,tF,tF,tF,tF,tT,tF,tF,tF,tF,tF,tF,tT,tT,.ret _ _ _ QS]) (by kernel_rfl)).to (by clear E1 E2 E3 E4 E5 E6 E7;(try simp only [cJ,wk,aB,aK,ae,ak,aA,ay,aG,au,an,ax,bb] at*);(rw [Vn];simp [wk,aB,aK,ae,ak,aA,ay,aG,au,an,ax,bb, *];grind))
    let E8:EL:=E7++Vc 3 (tC (eF (aL h22)))++ [tC (aL h22)]++Vc 4 (tC (eF (aL h22)))
    by_cases h24:w=8
    ·subst h24
     have RW:= @br ai (-128) 127
     have R5:= @je 8
     exact (dh (d:= .bool true) (E8++ [tT,tT,tT,.ret _ _ _ RW,tT,tT,tF,tF,tF,tF,tF,tF,tF,tT,tT,.ret _ _ _ R5]) (by kernel_rfl)).to (by clear E1 E2 E3 E4 E5 E6 E7 E8;(try simp only [cJ,wk,aB,aK,ae,ak,aA,ay,aG,au,an,ax,bb] at*);(rw [Vn];simp [wk,aB,aK,ae,ak,aA,ay,aG,au,an,ax,bb, *];grind))
    have Qz:= @je w
    generalize g29:an w=r28 at Qz
    exact (dh (d:= .bool r28) (E8++Vc 3 (tC (eT (aL h24)))++ [tC (eF (aL h22)),tC (aL h24),tC (aL h22),tF,tF,tF,tF,tF,tF,tT,tT,.ret _ _ _ Qz]) (by kernel_rfl)).to (by clear E1 E2 E3 E4 E5 E6 E7 E8;(try simp only [cJ,wk,aB,aK,ae,ak,aA,ay,aG,au,an,ax,bb] at*);(rw [Vn];simp [wk,aB,aK,ae,ak,aA,ay,aG,au,an,ax,bb, *];grind))
   exact (dh (d:= .bool false) (E6++ [tC (nt (aD (bk (-2147483648) h20) (cY 2147483647 h21)))]) (by kernel_rfl)).to (by clear E1 E2 E3 E4 E5 E6;(try simp only [cJ,wk,aB,aK,ae,ak,aA,ay,aG,au,an,ax,bb] at*);(simp [wk,aB,aK,ae,ak,aA,ay,aG,au,an,ax,bb, *];omega))
  exact (dh (d:= .bool false) (E5++Vc 4 (tC (eF (nt (aD (bk (-2147483648) h17) (cY 2147483647 h18)))))++ [tC (nt (aD (bk (-2147483648) h17) (cY 2147483647 h18))),tT]) (by kernel_rfl)).to (by clear E1 E2 E3 E4 E5;(try simp only [cJ,wk,aB,aK,ae,ak,aA,ay,aG,au,an,ax,bb] at*);(simp [wk,aB,aK,ae,ak,aA,ay,aG,au,an,ax,bb, *];omega))
 exact (dh (d:= .bool false) (E1++Vc 4 (tC (eF (nt h6)))++ [tC (nt h6),tF,tF,tF,tF,tT,tF,tF,tF,tF,tT,tF,tF,tF,tF,tT,tF,tF,tF,tF,tT,tT]) (by kernel_rfl)).to (by clear E1;(try simp only [cJ,wk,aB,aK,ae,ak,aA,ay,aG,au,an,ax,bb] at*);(rw [Vn];simp [wk,aB,aK,ae,ak,aA,ay,aG,au,an,ax,bb, *];grind))
theorem A2:qo 8:=by
 intro op w dst src base aa ai cc ho h O3
 have c0:= @aN op ho
 rw [eq_of_beq h] at c0
 generalize g2:cr op=r1 at c0
 generalize g4:dV op=r3 at c0
 have c5:= @Cj op w dst src base aa ai cc 8 (rfl:true=true)
 let E1:EL:=([.ret _ _ _ c0]++Vc 4 (tC (eF (nt O3)))++ [.ret _ _ _ c5,tC (eF (nt O3)),tC (eF (nt O3)),.flat _ _ dP,tC (nt O3)])
 rcases de (ae [.int .i8 0,.int .i8 0,.int .i8 dst,.int .i8 0,.int .i8 0,.int .i64 0,.int .i64 ai,.int .i8 cc] [.int .i8 0,.int .i8 0,.int .i8 0,.int .i8 0,.int .i8 0,.int .i64 0,.int .i64 0,.int .i8 0]) with h6|h6
 ·have c7:= @cU dst
  generalize g9:ay dst=r8 at c7
  let E2:EL:=E1++Vc 3 (tC (eF (nt h6)))++ [.ret _ _ _ c7,tC (eF (nt h6)),tC (nt h6)]
  cases r8
  ·exact (dh (d:= .bool false) (E2++ [tF,tF,tF,tF,tT,tF,tF,tF,tF,tT,tF,tF,tF,tF,tT,tF,tF,tF,tF,tT,tT]) (by kernel_rfl)).to (by clear E1 E2;(try simp only [cJ,wk,aB,aK,ae,ak,aA,ay,aG,au,an,ax,bb] at*);(simp [wk,aB,aK,ae,ak,aA,ay,aG,au,an,ax,bb, *];done))
  have Pg:= @cU src
  generalize g12:ay src=O9 at Pg
  let E3:EL:=E2++ [tT,tT,tT,.ret _ _ _ Pg,tT,tF]
  cases O9
  ·exact (dh (d:= .bool false) (E3++ [tF,tF,tF,tF,tT,tF,tF,tF,tF,tT,tF,tF,tF,tF,tT,tT]) (by kernel_rfl)).to (by clear E1 E2 E3;(try simp only [cJ,wk,aB,aK,ae,ak,aA,ay,aG,au,an,ax,bb] at*);(simp [wk,aB,aK,ae,ak,aA,ay,aG,au,an,ax,bb, *];done))
  have Pr:= @cU base
  generalize g15:ay base=P4 at Pr
  let E4:EL:=E3++ [tT,tT,tT,.ret _ _ _ Pr,tT,tF]
  cases P4
  ·exact (dh (d:= .bool false) (E4++ [tF,tF,tF,tF,tT,tF,tF,tF,tF,tT,tT]) (by kernel_rfl)).to (by clear E1 E2 E3 E4;(try simp only [cJ,wk,aB,aK,ae,ak,aA,ay,aG,au,an,ax,bb] at*);(simp [wk,aB,aK,ae,ak,aA,ay,aG,au,an,ax,bb, *];done))
  have PQ:= @br aa (-2147483648) 2147483647
  let E5:EL:=E4++ [tT,tT,tT,.ret _ _ _ PQ,tT,tF]
  rcases de (decide (aa<(-2147483648))) with h17|h17
  ·exact (dh (d:= .bool false) (E5++Vc 4 (tC (eF (nt (bj (y:=decide (aa≤2147483647)) (bk (-2147483648) h17)))))++ [tC (nt (bj (y:=decide (aa≤2147483647)) (bk (-2147483648) h17))),tT]) (by kernel_rfl)).to (by clear E1 E2 E3 E4 E5;(try simp only [cJ,wk,aB,aK,ae,ak,aA,ay,aG,au,an,ax,bb] at*);(simp [wk,aB,aK,ae,ak,aA,ay,aG,au,an,ax,bb, *];omega))
  rcases de (decide (aa<2147483648)) with h18|h18
  ·have Qc:= @br ai (-2147483648) 2147483647
   let E6:EL:=E5++Vc 3 (tC (eF (nt (aD (bk (-2147483648) h17) (cY 2147483647 h18)))))++ [.ret _ _ _ Qc,tC (eF (nt (aD (bk (-2147483648) h17) (cY 2147483647 h18)))),tC (nt (aD (bk (-2147483648) h17) (cY 2147483647 h18)))]
   rcases de (decide (ai<(-2147483648))) with h20|h20
   ·exact (dh (d:= .bool false) (E6++ [tC (nt (bj (y:=decide (ai≤2147483647)) (bk (-2147483648) h20)))]) (by kernel_rfl)).to (by clear E1 E2 E3 E4 E5 E6;(try simp only [cJ,wk,aB,aK,ae,ak,aA,ay,aG,au,an,ax,bb] at*);(simp [wk,aB,aK,ae,ak,aA,ay,aG,au,an,ax,bb, *];omega))
   rcases de (decide (ai<2147483648)) with h21|h21
   ·let E7:EL:=E6++ [tC (nt (aD (bk (-2147483648) h20) (cY 2147483647 h21)))]
    by_cases h22:w=32
    ·subst h22
     have QS:= @je 32
     exact (dh (d:= .bool true) (E7++ [tF,tF,tF,tT,tF,tF,tF,tF,tF,tT,tF,tF,tF,tF,tF,tF,tF,tT,.ret _ _ _ QS]) (by kernel_rfl)).to (by clear E1 E2 E3 E4 E5 E6 E7;(try simp only [cJ,wk,aB,aK,ae,ak,aA,ay,aG,au,an,ax,bb] at*);(rw [Vn];simp [wk,aB,aK,ae,ak,aA,ay,aG,au,an,ax,bb, *];grind))
    let E8:EL:=E7++Vc 3 (tC (eF (aL h22)))++ [tC (aL h22)]++Vc 4 (tC (eF (aL h22)))
    by_cases h24:w=8
    ·subst h24
     have RW:= @br ai (-128) 127
     have R5:= @je 8
     exact (dh (d:= .bool true) (E8++ [tT,tT,tT,.ret _ _ _ RW,tT,tT]++Vc 8 tF++ [tT,.ret _ _ _ R5]) (by kernel_rfl)).to (by clear E1 E2 E3 E4 E5 E6 E7 E8;(try simp only [cJ,wk,aB,aK,ae,ak,aA,ay,aG,au,an,ax,bb] at*);(rw [Vn];simp [wk,aB,aK,ae,ak,aA,ay,aG,au,an,ax,bb, *];grind))
    have Qz:= @je w
    generalize g29:an w=r28 at Qz
    exact (dh (d:= .bool r28) (E8++Vc 3 (tC (eT (aL h24)))++ [tC (eF (aL h22)),tC (aL h24),tC (aL h22),tF,tF,tF,tF,tF,tF,tF,tT,.ret _ _ _ Qz]) (by kernel_rfl)).to (by clear E1 E2 E3 E4 E5 E6 E7 E8;(try simp only [cJ,wk,aB,aK,ae,ak,aA,ay,aG,au,an,ax,bb] at*);(rw [Vn];simp [wk,aB,aK,ae,ak,aA,ay,aG,au,an,ax,bb, *];grind))
   exact (dh (d:= .bool false) (E6++ [tC (nt (aD (bk (-2147483648) h20) (cY 2147483647 h21)))]) (by kernel_rfl)).to (by clear E1 E2 E3 E4 E5 E6;(try simp only [cJ,wk,aB,aK,ae,ak,aA,ay,aG,au,an,ax,bb] at*);(simp [wk,aB,aK,ae,ak,aA,ay,aG,au,an,ax,bb, *];omega))
  exact (dh (d:= .bool false) (E5++Vc 4 (tC (eF (nt (aD (bk (-2147483648) h17) (cY 2147483647 h18)))))++ [tC (nt (aD (bk (-2147483648) h17) (cY 2147483647 h18))),tT]) (by kernel_rfl)).to (by clear E1 E2 E3 E4 E5;(try simp only [cJ,wk,aB,aK,ae,ak,aA,ay,aG,au,an,ax,bb] at*);(simp [wk,aB,aK,ae,ak,aA,ay,aG,au,an,ax,bb, *];omega))
 exact (dh (d:= .bool false) (E1++Vc 4 (tC (eF (nt h6)))++ [tC (nt h6),tF,tF,tF,tF,tT,tF,tF,tF,tF,tT,tF,tF,tF,tF,tT,tF,tF,tF,tF,tT,tT]) (by kernel_rfl)).to (by clear E1;(try simp only [cJ,wk,aB,aK,ae,ak,aA,ay,aG,au,an,ax,bb] at*);(rw [Vn];simp [wk,aB,aK,ae,ak,aA,ay,aG,au,an,ax,bb, *];grind))
def qn (Pf:Int):Prop:= ∀(op w dst src base aa ai cc:Int) (ho:op≤127) (h:(aR op==Pf)=true) (O3:decide (0≤op∧op≤31)=true),aZ Tryz.prog 71 ([xD op w dst src base aa ai cc]) (.bool (aA op w dst src base aa ai cc))
theorem A1:qn 9:=by
 intro op w dst src base aa ai cc ho h O3
 have c0:= @aN op ho
 rw [eq_of_beq h] at c0
 generalize g2:cr op=r1 at c0
 generalize g4:dV op=r3 at c0
 have c5:= @Ci op w dst src base aa ai cc 9 (rfl:true=true)
 let E1:EL:=([.ret _ _ _ c0]++Vc 4 (tC (eF (nt O3)))++ [.ret _ _ _ c5,tC (eF (nt O3)),tC (eF (nt O3)),.flat _ _ dP,tC (nt O3)])
 rcases de (ae [.int .i8 0,.int .i8 0,.int .i8 dst,.int .i8 src,.int .i8 base,.int .i64 aa,.int .i64 0,.int .i8 cc] [.int .i8 0,.int .i8 0,.int .i8 0,.int .i8 0,.int .i8 0,.int .i64 0,.int .i64 0,.int .i8 0]) with h6|h6
 ·have c7:= @cU dst
  generalize g9:ay dst=r8 at c7
  let E2:EL:=E1++Vc 3 (tC (eF (nt h6)))++ [.ret _ _ _ c7,tC (eF (nt h6)),tC (nt h6)]
  cases r8
  ·exact (dh (d:= .bool false) (E2++ [tF,tF,tF,tF,tT,tF,tF,tF,tF,tT,tF,tF,tF,tF,tT,tF,tF,tF,tF,tT,tT]) (by kernel_rfl)).to (by clear E1 E2;(try simp only [cJ,wk,aB,aK,ae,ak,aA,ay,aG,au,an,ax,bb] at*);(simp [wk,aB,aK,ae,ak,aA,ay,aG,au,an,ax,bb, *];done))
  have Pg:= @cU src
  generalize g12:ay src=O9 at Pg
  let E3:EL:=E2++ [tT,tT,tT,.ret _ _ _ Pg,tT,tF]
  cases O9
  ·exact (dh (d:= .bool false) (E3++ [tF,tF,tF,tF,tT,tF,tF,tF,tF,tT,tF,tF,tF,tF,tT,tT]) (by kernel_rfl)).to (by clear E1 E2 E3;(try simp only [cJ,wk,aB,aK,ae,ak,aA,ay,aG,au,an,ax,bb] at*);(simp [wk,aB,aK,ae,ak,aA,ay,aG,au,an,ax,bb, *];done))
  have Pr:= @cU base
  generalize g15:ay base=P4 at Pr
  let E4:EL:=E3++ [tT,tT,tT,.ret _ _ _ Pr,tT,tF]
  cases P4
  ·exact (dh (d:= .bool false) (E4++ [tF,tF,tF,tF,tT,tF,tF,tF,tF,tT,tT]) (by kernel_rfl)).to (by clear E1 E2 E3 E4;(try simp only [cJ,wk,aB,aK,ae,ak,aA,ay,aG,au,an,ax,bb] at*);(simp [wk,aB,aK,ae,ak,aA,ay,aG,au,an,ax,bb, *];done))
  have PQ:= @br aa (-2147483648) 2147483647
  let E5:EL:=E4++ [tT,tT,tT,.ret _ _ _ PQ,tT,tF]
  rcases de (decide (aa<(-2147483648))) with h17|h17
  ·exact (dh (d:= .bool false) (E5++Vc 4 (tC (eF (nt (bj (y:=decide (aa≤2147483647)) (bk (-2147483648) h17)))))++ [tC (nt (bj (y:=decide (aa≤2147483647)) (bk (-2147483648) h17))),tT]) (by kernel_rfl)).to (by clear E1 E2 E3 E4 E5;(try simp only [cJ,wk,aB,aK,ae,ak,aA,ay,aG,au,an,ax,bb] at*);(simp [wk,aB,aK,ae,ak,aA,ay,aG,au,an,ax,bb, *];omega))
  rcases de (decide (aa<2147483648)) with h18|h18
  ·have Qc:= @br ai (-2147483648) 2147483647
   let E6:EL:=E5++Vc 3 (tC (eF (nt (aD (bk (-2147483648) h17) (cY 2147483647 h18)))))++ [.ret _ _ _ Qc,tC (eF (nt (aD (bk (-2147483648) h17) (cY 2147483647 h18)))),tC (nt (aD (bk (-2147483648) h17) (cY 2147483647 h18)))]
   rcases de (decide (ai<(-2147483648))) with h20|h20
   ·exact (dh (d:= .bool false) (E6++ [tC (nt (bj (y:=decide (ai≤2147483647)) (bk (-2147483648) h20)))]) (by kernel_rfl)).to (by clear E1 E2 E3 E4 E5 E6;(try simp only [cJ,wk,aB,aK,ae,ak,aA,ay,aG,au,an,ax,bb] at*);(simp [wk,aB,aK,ae,ak,aA,ay,aG,au,an,ax,bb, *];omega))
   rcases de (decide (ai<2147483648)) with h21|h21
   ·let E7:EL:=E6++ [tC (nt (aD (bk (-2147483648) h20) (cY 2147483647 h21)))]
    by_cases h22:w=32
    ·subst h22
     exact (dh (d:= .bool true) (E7++ [tF,tF,tF,tT,tF,tF,tF,tF,tF,tT]++Vc 8 tF++ [tT]) (by kernel_rfl)).to (by clear E1 E2 E3 E4 E5 E6 E7;(try simp only [cJ,wk,aB,aK,ae,ak,aA,ay,aG,au,an,ax,bb] at*);(rw [Vn];simp [wk,aB,aK,ae,ak,aA,ay,aG,au,an,ax,bb, *];grind))
    let E8:EL:=E7++Vc 3 (tC (eF (aL h22)))++ [tC (aL h22)]++Vc 4 (tC (eF (aL h22)))
    by_cases h23:w=8
    ·subst h23
     have QV:= @br ai (-128) 127
     exact (dh (d:= .bool (decide ((-128)≤ai)&&decide (ai≤127))) (E8++ [tT,tT,tT,.ret _ _ _ QV,tT,tT]++Vc 9 tF++ [tT]) (by kernel_rfl)).to (by clear E1 E2 E3 E4 E5 E6 E7 E8;(try simp only [cJ,wk,aB,aK,ae,ak,aA,ay,aG,au,an,ax,bb] at*);(rw [Vn];simp [wk,aB,aK,ae,ak,aA,ay,aG,au,an,ax,bb, *];grind))
    exact (dh (d:= .bool false) (E8++Vc 3 (tC (eT (aL h23)))++ [tC (eF (aL h22)),tC (aL h23),tC (aL h22)]++Vc 8 tF++ [tT]) (by kernel_rfl)).to (by clear E1 E2 E3 E4 E5 E6 E7 E8;(try simp only [cJ,wk,aB,aK,ae,ak,aA,ay,aG,au,an,ax,bb] at*);(simp [wk,aB,aK,ae,ak,aA,ay,aG,au,an,ax,bb, *];done))
   exact (dh (d:= .bool false) (E6++ [tC (nt (aD (bk (-2147483648) h20) (cY 2147483647 h21)))]) (by kernel_rfl)).to (by clear E1 E2 E3 E4 E5 E6;(try simp only [cJ,wk,aB,aK,ae,ak,aA,ay,aG,au,an,ax,bb] at*);(simp [wk,aB,aK,ae,ak,aA,ay,aG,au,an,ax,bb, *];omega))
  exact (dh (d:= .bool false) (E5++Vc 4 (tC (eF (nt (aD (bk (-2147483648) h17) (cY 2147483647 h18)))))++ [tC (nt (aD (bk (-2147483648) h17) (cY 2147483647 h18))),tT]) (by kernel_rfl)).to (by clear E1 E2 E3 E4 E5;(try simp only [cJ,wk,aB,aK,ae,ak,aA,ay,aG,au,an,ax,bb] at*);(simp [wk,aB,aK,ae,ak,aA,ay,aG,au,an,ax,bb, *];omega))
 exact (dh (d:= .bool false) (E1++Vc 4 (tC (eF (nt h6)))++ [tC (nt h6),tF,tF,tF,tF,tT,tF,tF,tF,tF,tT,tF,tF,tF,tF,tT,tF,tF,tF,tF,tT,tT]) (by kernel_rfl)).to (by clear E1;(try simp only [cJ,wk,aB,aK,ae,ak,aA,ay,aG,au,an,ax,bb] at*);(rw [Vn];simp [wk,aB,aK,ae,ak,aA,ay,aG,au,an,ax,bb, *];grind))
theorem xN:qn 10:=by
 intro op w dst src base aa ai cc ho h O3
 have c0:= @aN op ho
 rw [eq_of_beq h] at c0
 generalize g2:cr op=r1 at c0
 generalize g4:dV op=r3 at c0
 have c5:= @yO op w dst src base aa ai cc 10 (rfl:true=true)
 let E1:EL:=([.ret _ _ _ c0]++Vc 4 (tC (eF (nt O3)))++ [.ret _ _ _ c5,tC (eF (nt O3)),tC (eF (nt O3)),.flat _ _ dP,tC (nt O3)])
 rcases de (ae [.int .i8 0,.int .i8 0,.int .i8 dst,.int .i8 src,.int .i8 base,.int .i64 aa,.int .i64 0,.int .i8 0] [.int .i8 0,.int .i8 0,.int .i8 0,.int .i8 0,.int .i8 0,.int .i64 0,.int .i64 0,.int .i8 0]) with h6|h6
 ·have c7:= @cU dst
  generalize g9:ay dst=r8 at c7
  let E2:EL:=E1++Vc 3 (tC (eF (nt h6)))++ [.ret _ _ _ c7,tC (eF (nt h6)),tC (nt h6)]
  cases r8
  ·exact (dh (d:= .bool false) (E2++ [tF,tF,tF,tF,tT,tF,tF,tF,tF,tT,tF,tF,tF,tF,tT,tF,tF,tF,tF,tT,tT]) (by kernel_rfl)).to (by clear E1 E2;(try simp only [cJ,wk,aB,aK,ae,ak,aA,ay,aG,au,an,ax,bb] at*);(simp [wk,aB,aK,ae,ak,aA,ay,aG,au,an,ax,bb, *];done))
  have Pg:= @cU src
  generalize g12:ay src=O9 at Pg
  let E3:EL:=E2++ [tT,tT,tT,.ret _ _ _ Pg,tT,tF]
  cases O9
  ·exact (dh (d:= .bool false) (E3++ [tF,tF,tF,tF,tT,tF,tF,tF,tF,tT,tF,tF,tF,tF,tT,tT]) (by kernel_rfl)).to (by clear E1 E2 E3;(try simp only [cJ,wk,aB,aK,ae,ak,aA,ay,aG,au,an,ax,bb] at*);(simp [wk,aB,aK,ae,ak,aA,ay,aG,au,an,ax,bb, *];done))
  have Pr:= @cU base
  generalize g15:ay base=P4 at Pr
  let E4:EL:=E3++ [tT,tT,tT,.ret _ _ _ Pr,tT,tF]
  cases P4
  ·exact (dh (d:= .bool false) (E4++ [tF,tF,tF,tF,tT,tF,tF,tF,tF,tT,tT]) (by kernel_rfl)).to (by clear E1 E2 E3 E4;(try simp only [cJ,wk,aB,aK,ae,ak,aA,ay,aG,au,an,ax,bb] at*);(simp [wk,aB,aK,ae,ak,aA,ay,aG,au,an,ax,bb, *];done))
  have PQ:= @br aa (-2147483648) 2147483647
  let E5:EL:=E4++ [tT,tT,tT,.ret _ _ _ PQ,tT,tF]
  rcases de (decide (aa<(-2147483648))) with h17|h17
  ·exact (dh (d:= .bool false) (E5++Vc 4 (tC (eF (nt (bj (y:=decide (aa≤2147483647)) (bk (-2147483648) h17)))))++ [tC (nt (bj (y:=decide (aa≤2147483647)) (bk (-2147483648) h17))),tT]) (by kernel_rfl)).to (by clear E1 E2 E3 E4 E5;(try simp only [cJ,wk,aB,aK,ae,ak,aA,ay,aG,au,an,ax,bb] at*);(simp [wk,aB,aK,ae,ak,aA,ay,aG,au,an,ax,bb, *];omega))
  rcases de (decide (aa<2147483648)) with h18|h18
  ·have Qc:= @br ai (-2147483648) 2147483647
   let E6:EL:=E5++Vc 3 (tC (eF (nt (aD (bk (-2147483648) h17) (cY 2147483647 h18)))))++ [.ret _ _ _ Qc,tC (eF (nt (aD (bk (-2147483648) h17) (cY 2147483647 h18)))),tC (nt (aD (bk (-2147483648) h17) (cY 2147483647 h18)))]
   rcases de (decide (ai<(-2147483648))) with h20|h20
   ·exact (dh (d:= .bool false) (E6++ [tC (nt (bj (y:=decide (ai≤2147483647)) (bk (-2147483648) h20)))]) (by kernel_rfl)).to (by clear E1 E2 E3 E4 E5 E6;(try simp only [cJ,wk,aB,aK,ae,ak,aA,ay,aG,au,an,ax,bb] at*);(simp [wk,aB,aK,ae,ak,aA,ay,aG,au,an,ax,bb, *];omega))
   rcases de (decide (ai<2147483648)) with h21|h21
   ·let E7:EL:=E6++ [tC (nt (aD (bk (-2147483648) h20) (cY 2147483647 h21)))]
    by_cases h22:w=32
    ·subst h22
     have QS:= @oI cc
     generalize g25:bb cc=r24 at QS
     exact (dh (d:= .bool r24) (E7++ [tF,tF,tF,tT,tF,tF,tF,tF,tF,tT]++Vc 9 tF++ [tT,tT,tT,tT,.ret _ _ _ QS,tT]) (by kernel_rfl)).to (by clear E1 E2 E3 E4 E5 E6 E7;(try simp only [cJ,wk,aB,aK,ae,ak,aA,ay,aG,au,an,ax,bb] at*);(rw [Vn];simp [wk,aB,aK,ae,ak,aA,ay,aG,au,an,ax,bb, *];grind))
    let E8:EL:=E7++Vc 3 (tC (eF (aL h22)))++ [tC (aL h22)]++Vc 4 (tC (eF (aL h22)))
    by_cases QE:w=8
    ·subst QE
     have Qz:= @br ai (-128) 127
     let E9:EL:=E8++ [tT,tT,tT,.ret _ _ _ Qz,tT,tT]++Vc 10 tF++ [tT]
     rcases de (decide (ai<(-128))) with QW|QW
     ·exact (dh (d:= .bool false) (E9++Vc 3 (tC (eT (bj (y:=decide (ai≤127)) (bk (-128) QW))))++ [tC (bj (y:=decide (ai≤127)) (bk (-128) QW))]) (by kernel_rfl)).to (by clear E1 E2 E3 E4 E5 E6 E7 E8 E9;(try simp only [cJ,wk,aB,aK,ae,ak,aA,ay,aG,au,an,ax,bb] at*);(simp [wk,aB,aK,ae,ak,aA,ay,aG,au,an,ax,bb, *];omega))
     rcases de (decide (ai<128)) with h29|h29
     ·have R8:= @oI cc
      generalize g32:bb cc=r31 at R8
      exact (dh (d:= .bool r31) (E9++Vc 3 (tC (eT (aD (bk (-128) QW) (cY 127 h29))))++ [.ret _ _ _ R8,tC (aD (bk (-128) QW) (cY 127 h29))]) (by kernel_rfl)).to (by clear E1 E2 E3 E4 E5 E6 E7 E8 E9;(try simp only [cJ,wk,aB,aK,ae,ak,aA,ay,aG,au,an,ax,bb] at*);(rw [Vn];simp [wk,aB,aK,ae,ak,aA,ay,aG,au,an,ax,bb, *];grind))
     exact (dh (d:= .bool false) (E9++Vc 3 (tC (eT (aD (bk (-128) QW) (cY 127 h29))))++ [tC (aD (bk (-128) QW) (cY 127 h29))]) (by kernel_rfl)).to (by clear E1 E2 E3 E4 E5 E6 E7 E8 E9;(try simp only [cJ,wk,aB,aK,ae,ak,aA,ay,aG,au,an,ax,bb] at*);(simp [wk,aB,aK,ae,ak,aA,ay,aG,au,an,ax,bb, *];omega))
    exact (dh (d:= .bool false) (E8++Vc 3 (tC (eT (aL QE)))++ [tC (eF (aL h22)),tC (aL QE),tC (aL h22)]++Vc 9 tF++ [tT,tF,tF,tF,tF]) (by kernel_rfl)).to (by clear E1 E2 E3 E4 E5 E6 E7 E8;(try simp only [cJ,wk,aB,aK,ae,ak,aA,ay,aG,au,an,ax,bb] at*);(simp [wk,aB,aK,ae,ak,aA,ay,aG,au,an,ax,bb, *];done))
   exact (dh (d:= .bool false) (E6++ [tC (nt (aD (bk (-2147483648) h20) (cY 2147483647 h21)))]) (by kernel_rfl)).to (by clear E1 E2 E3 E4 E5 E6;(try simp only [cJ,wk,aB,aK,ae,ak,aA,ay,aG,au,an,ax,bb] at*);(simp [wk,aB,aK,ae,ak,aA,ay,aG,au,an,ax,bb, *];omega))
  exact (dh (d:= .bool false) (E5++Vc 4 (tC (eF (nt (aD (bk (-2147483648) h17) (cY 2147483647 h18)))))++ [tC (nt (aD (bk (-2147483648) h17) (cY 2147483647 h18))),tT]) (by kernel_rfl)).to (by clear E1 E2 E3 E4 E5;(try simp only [cJ,wk,aB,aK,ae,ak,aA,ay,aG,au,an,ax,bb] at*);(simp [wk,aB,aK,ae,ak,aA,ay,aG,au,an,ax,bb, *];omega))
 exact (dh (d:= .bool false) (E1++Vc 4 (tC (eF (nt h6)))++ [tC (nt h6),tF,tF,tF,tF,tT,tF,tF,tF,tF,tT,tF,tF,tF,tF,tT,tF,tF,tF,tF,tT,tT]) (by kernel_rfl)).to (by clear E1;(try simp only [cJ,wk,aB,aK,ae,ak,aA,ay,aG,au,an,ax,bb] at*);(rw [Vn];simp [wk,aB,aK,ae,ak,aA,ay,aG,au,an,ax,bb, *];grind))
theorem xM:qn 11:=by
 intro op w dst src base aa ai cc ho h O3
 have c0:= @aN op ho
 rw [eq_of_beq h] at c0
 generalize g2:cr op=r1 at c0
 generalize g4:dV op=r3 at c0
 have c5:= @yN op w dst src base aa ai cc 11 (rfl:true=true)
 let E1:EL:=([.ret _ _ _ c0]++Vc 4 (tC (eF (nt O3)))++ [.ret _ _ _ c5,tC (eF (nt O3)),tC (eF (nt O3)),.flat _ _ dP,tC (nt O3)])
 rcases de (ae [.int .i8 0,.int .i8 w,.int .i8 dst,.int .i8 src,.int .i8 base,.int .i64 aa,.int .i64 ai,.int .i8 cc] [.int .i8 0,.int .i8 0,.int .i8 0,.int .i8 0,.int .i8 0,.int .i64 0,.int .i64 0,.int .i8 0]) with h6|h6
 ·have c7:= @cU dst
  generalize g9:ay dst=r8 at c7
  let E2:EL:=E1++Vc 3 (tC (eF (nt h6)))++ [.ret _ _ _ c7,tC (eF (nt h6)),tC (nt h6)]
  cases r8
  ·exact (dh (d:= .bool false) (E2++ [tF,tF,tF,tF,tT,tF,tF,tF,tF,tT,tF,tF,tF,tF,tT,tF,tF,tF,tF,tT,tT]) (by kernel_rfl)).to (by clear E1 E2;(try simp only [cJ,wk,aB,aK,ae,ak,aA,ay,aG,au,an,ax,bb] at*);(simp [wk,aB,aK,ae,ak,aA,ay,aG,au,an,ax,bb, *];done))
  have Pg:= @cU src
  generalize g12:ay src=O9 at Pg
  let E3:EL:=E2++ [tT,tT,tT,.ret _ _ _ Pg,tT,tF]
  cases O9
  ·exact (dh (d:= .bool false) (E3++ [tF,tF,tF,tF,tT,tF,tF,tF,tF,tT,tF,tF,tF,tF,tT,tT]) (by kernel_rfl)).to (by clear E1 E2 E3;(try simp only [cJ,wk,aB,aK,ae,ak,aA,ay,aG,au,an,ax,bb] at*);(simp [wk,aB,aK,ae,ak,aA,ay,aG,au,an,ax,bb, *];done))
  have Pr:= @cU base
  generalize g15:ay base=P4 at Pr
  let E4:EL:=E3++ [tT,tT,tT,.ret _ _ _ Pr,tT,tF]
  cases P4
  ·exact (dh (d:= .bool false) (E4++ [tF,tF,tF,tF,tT,tF,tF,tF,tF,tT,tT]) (by kernel_rfl)).to (by clear E1 E2 E3 E4;(try simp only [cJ,wk,aB,aK,ae,ak,aA,ay,aG,au,an,ax,bb] at*);(simp [wk,aB,aK,ae,ak,aA,ay,aG,au,an,ax,bb, *];done))
  have PQ:= @br aa (-2147483648) 2147483647
  let E5:EL:=E4++ [tT,tT,tT,.ret _ _ _ PQ,tT,tF]
  rcases de (decide (aa<(-2147483648))) with h17|h17
  ·exact (dh (d:= .bool false) (E5++Vc 4 (tC (eF (nt (bj (y:=decide (aa≤2147483647)) (bk (-2147483648) h17)))))++ [tC (nt (bj (y:=decide (aa≤2147483647)) (bk (-2147483648) h17))),tT]) (by kernel_rfl)).to (by clear E1 E2 E3 E4 E5;(try simp only [cJ,wk,aB,aK,ae,ak,aA,ay,aG,au,an,ax,bb] at*);(simp [wk,aB,aK,ae,ak,aA,ay,aG,au,an,ax,bb, *];omega))
  rcases de (decide (aa<2147483648)) with h18|h18
  ·have Qc:= @br ai (-2147483648) 2147483647
   let E6:EL:=E5++Vc 3 (tC (eF (nt (aD (bk (-2147483648) h17) (cY 2147483647 h18)))))++ [.ret _ _ _ Qc,tC (eF (nt (aD (bk (-2147483648) h17) (cY 2147483647 h18)))),tC (nt (aD (bk (-2147483648) h17) (cY 2147483647 h18)))]
   rcases de (decide (ai<(-2147483648))) with h20|h20
   ·exact (dh (d:= .bool false) (E6++ [tC (nt (bj (y:=decide (ai≤2147483647)) (bk (-2147483648) h20)))]) (by kernel_rfl)).to (by clear E1 E2 E3 E4 E5 E6;(try simp only [cJ,wk,aB,aK,ae,ak,aA,ay,aG,au,an,ax,bb] at*);(simp [wk,aB,aK,ae,ak,aA,ay,aG,au,an,ax,bb, *];omega))
   rcases de (decide (ai<2147483648)) with h21|h21
   ·let E7:EL:=E6++ [tC (nt (aD (bk (-2147483648) h20) (cY 2147483647 h21)))]
    by_cases h22:w=32
    ·subst h22
     exact (dh (d:= .bool true) (E7++ [tF,tF,tF,tT,tF,tF,tF,tF,tF,tT]++Vc 10 tF) (by kernel_rfl)).to (by clear E1 E2 E3 E4 E5 E6 E7;(try simp only [cJ,wk,aB,aK,ae,ak,aA,ay,aG,au,an,ax,bb] at*);(rw [Vn];simp [wk,aB,aK,ae,ak,aA,ay,aG,au,an,ax,bb, *];grind))
    let E8:EL:=E7++Vc 3 (tC (eF (aL h22)))++ [tC (aL h22)]++Vc 4 (tC (eF (aL h22)))
    by_cases h23:w=8
    ·subst h23
     have QV:= @br ai (-128) 127
     exact (dh (d:= .bool true) (E8++ [tT,tT,tT,.ret _ _ _ QV,tT,tT]++Vc 11 tF) (by kernel_rfl)).to (by clear E1 E2 E3 E4 E5 E6 E7 E8;(try simp only [cJ,wk,aB,aK,ae,ak,aA,ay,aG,au,an,ax,bb] at*);(rw [Vn];simp [wk,aB,aK,ae,ak,aA,ay,aG,au,an,ax,bb, *];grind))
    exact (dh (d:= .bool true) (E8++Vc 3 (tC (eT (aL h23)))++ [tC (eF (aL h22)),tC (aL h23),tC (aL h22)]++Vc 10 tF) (by kernel_rfl)).to (by clear E1 E2 E3 E4 E5 E6 E7 E8;(try simp only [cJ,wk,aB,aK,ae,ak,aA,ay,aG,au,an,ax,bb] at*);(rw [Vn];simp [wk,aB,aK,ae,ak,aA,ay,aG,au,an,ax,bb, *];grind))
   exact (dh (d:= .bool false) (E6++ [tC (nt (aD (bk (-2147483648) h20) (cY 2147483647 h21)))]) (by kernel_rfl)).to (by clear E1 E2 E3 E4 E5 E6;(try simp only [cJ,wk,aB,aK,ae,ak,aA,ay,aG,au,an,ax,bb] at*);(simp [wk,aB,aK,ae,ak,aA,ay,aG,au,an,ax,bb, *];omega))
  exact (dh (d:= .bool false) (E5++Vc 4 (tC (eF (nt (aD (bk (-2147483648) h17) (cY 2147483647 h18)))))++ [tC (nt (aD (bk (-2147483648) h17) (cY 2147483647 h18))),tT]) (by kernel_rfl)).to (by clear E1 E2 E3 E4 E5;(try simp only [cJ,wk,aB,aK,ae,ak,aA,ay,aG,au,an,ax,bb] at*);(simp [wk,aB,aK,ae,ak,aA,ay,aG,au,an,ax,bb, *];omega))
 exact (dh (d:= .bool false) (E1++Vc 4 (tC (eF (nt h6)))++ [tC (nt h6),tF,tF,tF,tF,tT,tF,tF,tF,tF,tT,tF,tF,tF,tF,tT,tF,tF,tF,tF,tT,tT]) (by kernel_rfl)).to (by clear E1;(try simp only [cJ,wk,aB,aK,ae,ak,aA,ay,aG,au,an,ax,bb] at*);(rw [Vn];simp [wk,aB,aK,ae,ak,aA,ay,aG,au,an,ax,bb, *];grind))
theorem nJ:∀n:Fin 32,aR (n.val:Int)=1∨aR (n.val:Int)=2∨aR (n.val:Int)=3∨aR (n.val:Int)=4∨aR (n.val:Int)=5∨aR (n.val:Int)=6∨aR (n.val:Int)=7∨aR (n.val:Int)=8∨aR (n.val:Int)=9∨aR (n.val:Int)=10∨aR (n.val:Int)=11:=by decide+kernel
theorem aE (op w dst src base aa ai cc:Int) (ho:op≤127):aZ Tryz.prog 71 [xD op w dst src base aa ai cc] (.bool (aA op w dst src base aa ai cc)):=by
 by_cases O3:0≤op∧op≤31
 ·have e:op=(((⟨op.toNat,by omega⟩:Fin 32).val:Nat):Int):=by simp;omega
  have hr:=nJ ⟨op.toNat,by omega⟩
  rw [← e] at hr
  have Ql:decide (0≤op∧op≤31)=true:=decide_eq_true O3
  rcases hr with h|h|h|h|h|h|h|h|h|h|h
  ·exact A9 _ _ _ _ _ _ _ _ ho (by rw [h];rfl) Ql
  ·exact A8 _ _ _ _ _ _ _ _ ho (by rw [h];rfl) Ql
  ·exact A7 _ _ _ _ _ _ _ _ ho (by rw [h];rfl) Ql
  ·exact A6 _ _ _ _ _ _ _ _ ho (by rw [h];rfl) Ql
  ·exact A5 _ _ _ _ _ _ _ _ ho (by rw [h];rfl) Ql
  ·exact A4 _ _ _ _ _ _ _ _ ho (by rw [h];rfl) Ql
  ·exact A3 _ _ _ _ _ _ _ _ ho (by rw [h];rfl) Ql
  ·exact A2 _ _ _ _ _ _ _ _ ho (by rw [h];rfl) Ql
  ·exact A1 _ _ _ _ _ _ _ _ ho (by rw [h];rfl) Ql
  ·exact xN _ _ _ _ _ _ _ _ ho (by rw [h];rfl) Ql
  ·exact xM _ _ _ _ _ _ _ _ ho (by rw [h];rfl) Ql
 ·exact Ba _ _ _ _ _ _ _ _ ho (by rw [(lG (op:=op) (by omega)).1];rfl) (decide_eq_false O3)
theorem bZ (a:Int) (a0:0≤a) (a1:a≤15):aZ Tryz.prog 145 ([.aj .tight 1 [.int .i8 a]]) (.int .i64 (er a)):=by
 exact (Hs (d:=D.int WO.i64 (WO.i64.wrap (↑(Vy (Vh (64:Nat) 0|||Vh (64:Nat) (WO.i64.wrap (1*2^min (Int.toNat a) (64:Nat))))):Int))) [.go 64,tT,tT,.get ([D.int WO.i8 a]) 0 (D.int WO.i8 a) rfl,tC (v:=true) (bk 0 (decide_eq_false (Int.not_lt.2 a0))),tF] (by kernel_rfl)).to (by simp only [wk,D.int.injEq,true_and];obtain ⟨n_a,rfl⟩:=fA a0 a1;clear a0 a1;revert n_a;decide+kernel)
theorem eI (a:Int) (a0:0≤a) (a1:a≤15) (b:Int) (b0:0≤b) (b1:b≤15):aZ Tryz.prog 145 ([.aj .tight 1 [.int .i8 a,.int .i8 b]]) (.int .i64 (gb (er a) (er b))):=by
 exact (Hs (d:=D.int WO.i64 (WO.i64.wrap (↑(Vy (Vh (64:Nat) (WO.i64.wrap (↑(Vy (Vh (64:Nat) 0|||Vh (64:Nat) (WO.i64.wrap (1*2^min (Int.toNat a) (64:Nat))))):Int))|||Vh (64:Nat) (WO.i64.wrap (1*2^min (Int.toNat b) (64:Nat))))):Int))) [.go 64,tT,tT,.get ([D.int WO.i8 a,D.int WO.i8 b]) 0 (D.int WO.i8 a) rfl,tC (v:=true) (bk 0 (decide_eq_false (Int.not_lt.2 a0))),tT,tT,.get ([D.int WO.i8 a,D.int WO.i8 b]) 1 (D.int WO.i8 b) rfl,tC (v:=true) (bk 0 (decide_eq_false (Int.not_lt.2 b0))),tF] (by kernel_rfl)).to (by simp only [wk,D.int.injEq,true_and];obtain ⟨n_a,rfl⟩:=fA a0 a1;obtain ⟨n_b,rfl⟩:=fA b0 b1;clear a0 a1 b0 b1;revert n_a n_b;decide+kernel)
theorem EY (a:Int) (a0:0≤a) (a1:a≤15):aZ Tryz.prog 145 ([.aj .tight 1 [.int .i8 a,.int .i8 0,.int .i8 2]]) (.int .i64 (gb (gb (er a) (er 0)) (er 2))):=by
 exact (Hs (d:=D.int WO.i64 (WO.i64.wrap (↑(Vy (Vh (64:Nat) (WO.i64.wrap (↑(Vy (Vh (64:Nat) (WO.i64.wrap (↑(Vy (Vh (64:Nat) 0|||Vh (64:Nat) (WO.i64.wrap (1*2^min (Int.toNat a) (64:Nat))))):Int))|||Vh (64:Nat) 1)):Int))|||Vh (64:Nat) 4)):Int))) [.go 64,tT,tT,.get ([D.int WO.i8 a,D.int WO.i8 0,D.int WO.i8 2]) 0 (D.int WO.i8 a) rfl,tC (v:=true) (bk 0 (decide_eq_false (Int.not_lt.2 a0))),tT,tT,.get ([D.int WO.i8 a,D.int WO.i8 0,D.int WO.i8 2]) 1 (D.int WO.i8 0) rfl,tT,tT,tT,.get ([D.int WO.i8 a,D.int WO.i8 0,D.int WO.i8 2]) 2 (D.int WO.i8 2) rfl,tT,tF] (by kernel_rfl)).to (by simp only [wk,D.int.injEq,true_and];obtain ⟨n_a,rfl⟩:=fA a0 a1;clear a0 a1;revert n_a;decide+kernel)
def db (Pf:Int):Prop:= ∀(w dst src base aa ai cc:Int) (d0:0≤dst) (d1:dst≤15) (s0:0≤src) (s1:src≤15) (b0:0≤base) (b1:base≤15) (hm:aA Pf w dst src base aa ai cc=true),aZ Tryz.prog 121 ([xD Pf w dst src base aa ai cc]) (.int .i64 (ph Pf dst src base))
theorem xu:db 0:=by
 intro w dst src base aa ai cc d0 d1 s0 s1 b0 b1 hm
 have c0:= @aE 0 w dst src base aa ai cc (by decide)
 rw [hm] at c0
 have c1:= @aN 0 (by decide)
 have c2:= @bZ src s0 s1
 exact (fF (d:= .int .i64 (er src)) [.ret _ _ _ c0,tF,.ret _ _ _ c1,tT,tT,tT,.ret _ _ _ c2] (by kernel_rfl)).to (by rfl)
theorem xr:db 1:=by
 intro w dst src base aa ai cc d0 d1 s0 s1 b0 b1 hm
 have c0:= @aE 1 w dst src base aa ai cc (by decide)
 rw [hm] at c0
 have c1:= @aN 1 (by decide)
 exact (fF (d:= .int .i64 0) [.ret _ _ _ c0,tF,.ret _ _ _ c1,tF,tF,tF,tT,tT,tT] (by kernel_rfl)).to (by rfl)
theorem xq:db 2:=by
 intro w dst src base aa ai cc d0 d1 s0 s1 b0 b1 hm
 have c0:= @aE 2 w dst src base aa ai cc (by decide)
 rw [hm] at c0
 have c1:= @aN 2 (by decide)
 have c2:= @eI dst d0 d1 src s0 s1
 exact (fF (d:= .int .i64 (gb (er dst) (er src))) [.ret _ _ _ c0,tF,.ret _ _ _ c1,tT,tT,tF,.ret _ _ _ c2] (by kernel_rfl)).to (by rfl)
theorem xp:db 3:=by
 intro w dst src base aa ai cc d0 d1 s0 s1 b0 b1 hm
 have c0:= @aE 3 w dst src base aa ai cc (by decide)
 rw [hm] at c0
 have c1:= @aN 3 (by decide)
 have c2:= @eI dst d0 d1 src s0 s1
 exact (fF (d:= .int .i64 (gb (er dst) (er src))) [.ret _ _ _ c0,tF,.ret _ _ _ c1,tT,tT,tF,.ret _ _ _ c2] (by kernel_rfl)).to (by rfl)
theorem xo:db 4:=by
 intro w dst src base aa ai cc d0 d1 s0 s1 b0 b1 hm
 have c0:= @aE 4 w dst src base aa ai cc (by decide)
 rw [hm] at c0
 have c1:= @aN 4 (by decide)
 have c2:= @eI dst d0 d1 src s0 s1
 exact (fF (d:= .int .i64 (gb (er dst) (er src))) [.ret _ _ _ c0,tF,.ret _ _ _ c1,tT,tT,tF,.ret _ _ _ c2] (by kernel_rfl)).to (by rfl)
theorem xn:db 5:=by
 intro w dst src base aa ai cc d0 d1 s0 s1 b0 b1 hm
 have c0:= @aE 5 w dst src base aa ai cc (by decide)
 rw [hm] at c0
 have c1:= @aN 5 (by decide)
 have c2:= @eI dst d0 d1 src s0 s1
 exact (fF (d:= .int .i64 (gb (er dst) (er src))) [.ret _ _ _ c0,tF,.ret _ _ _ c1,tT,tT,tF,.ret _ _ _ c2] (by kernel_rfl)).to (by rfl)
theorem xm:db 6:=by
 intro w dst src base aa ai cc d0 d1 s0 s1 b0 b1 hm
 have c0:= @aE 6 w dst src base aa ai cc (by decide)
 rw [hm] at c0
 have c1:= @aN 6 (by decide)
 have c2:= @eI dst d0 d1 src s0 s1
 exact (fF (d:= .int .i64 (gb (er dst) (er src))) [.ret _ _ _ c0,tF,.ret _ _ _ c1,tT,tT,tF,.ret _ _ _ c2] (by kernel_rfl)).to (by rfl)
theorem xl:db 7:=by
 intro w dst src base aa ai cc d0 d1 s0 s1 b0 b1 hm
 have c0:= @aE 7 w dst src base aa ai cc (by decide)
 rw [hm] at c0
 have c1:= @aN 7 (by decide)
 have c2:= @eI dst d0 d1 src s0 s1
 exact (fF (d:= .int .i64 (gb (er dst) (er src))) [.ret _ _ _ c0,tF,.ret _ _ _ c1,tT,tT,tF,.ret _ _ _ c2] (by kernel_rfl)).to (by rfl)
theorem xk:db 8:=by
 intro w dst src base aa ai cc d0 d1 s0 s1 b0 b1 hm
 have c0:= @aE 8 w dst src base aa ai cc (by decide)
 rw [hm] at c0
 have c1:= @aN 8 (by decide)
 have c2:= @eI dst d0 d1 src s0 s1
 exact (fF (d:= .int .i64 (gb (er dst) (er src))) [.ret _ _ _ c0,tF,.ret _ _ _ c1,tT,tT,tF,.ret _ _ _ c2] (by kernel_rfl)).to (by rfl)
theorem xj:db 9:=by
 intro w dst src base aa ai cc d0 d1 s0 s1 b0 b1 hm
 have c0:= @aE 9 w dst src base aa ai cc (by decide)
 rw [hm] at c0
 have c1:= @aN 9 (by decide)
 have c2:= @bZ dst d0 d1
 exact (fF (d:= .int .i64 (er dst)) [.ret _ _ _ c0,tF,.ret _ _ _ c1,tF,tF,tF,tT,tT,tF,.ret _ _ _ c2] (by kernel_rfl)).to (by rfl)
theorem vk:db 10:=by
 intro w dst src base aa ai cc d0 d1 s0 s1 b0 b1 hm
 have c0:= @aE 10 w dst src base aa ai cc (by decide)
 rw [hm] at c0
 have c1:= @aN 10 (by decide)
 have c2:= @bZ dst d0 d1
 exact (fF (d:= .int .i64 (er dst)) [.ret _ _ _ c0,tF,.ret _ _ _ c1,tF,tF,tF,tT,tT,tF,.ret _ _ _ c2] (by kernel_rfl)).to (by rfl)
theorem vj:db 11:=by
 intro w dst src base aa ai cc d0 d1 s0 s1 b0 b1 hm
 have c0:= @aE 11 w dst src base aa ai cc (by decide)
 rw [hm] at c0
 have c1:= @aN 11 (by decide)
 have c2:= @bZ dst d0 d1
 exact (fF (d:= .int .i64 (er dst)) [.ret _ _ _ c0,tF,.ret _ _ _ c1,tF,tF,tF,tT,tT,tF,.ret _ _ _ c2] (by kernel_rfl)).to (by rfl)
theorem vi:db 12:=by
 intro w dst src base aa ai cc d0 d1 s0 s1 b0 b1 hm
 have c0:= @aE 12 w dst src base aa ai cc (by decide)
 rw [hm] at c0
 have c1:= @aN 12 (by decide)
 have c2:= @bZ dst d0 d1
 exact (fF (d:= .int .i64 (er dst)) [.ret _ _ _ c0,tF,.ret _ _ _ c1,tF,tF,tF,tT,tT,tF,.ret _ _ _ c2] (by kernel_rfl)).to (by rfl)
theorem vh:db 13:=by
 intro w dst src base aa ai cc d0 d1 s0 s1 b0 b1 hm
 have c0:= @aE 13 w dst src base aa ai cc (by decide)
 rw [hm] at c0
 have c1:= @aN 13 (by decide)
 have c2:= @bZ dst d0 d1
 exact (fF (d:= .int .i64 (er dst)) [.ret _ _ _ c0,tF,.ret _ _ _ c1,tF,tF,tF,tT,tT,tF,.ret _ _ _ c2] (by kernel_rfl)).to (by rfl)
theorem vg:db 14:=by
 intro w dst src base aa ai cc d0 d1 s0 s1 b0 b1 hm
 have c0:= @aE 14 w dst src base aa ai cc (by decide)
 rw [hm] at c0
 have c1:= @aN 14 (by decide)
 have c2:= @bZ dst d0 d1
 exact (fF (d:= .int .i64 (er dst)) [.ret _ _ _ c0,tF,.ret _ _ _ c1,tF,tF,tF,tT,tT,tF,.ret _ _ _ c2] (by kernel_rfl)).to (by rfl)
theorem vf:db 15:=by
 intro w dst src base aa ai cc d0 d1 s0 s1 b0 b1 hm
 have c0:= @aE 15 w dst src base aa ai cc (by decide)
 rw [hm] at c0
 have c1:= @aN 15 (by decide)
 have c2:= @bZ dst d0 d1
 exact (fF (d:= .int .i64 (er dst)) [.ret _ _ _ c0,tF,.ret _ _ _ c1,tF,tF,tF,tT,tT,tF,.ret _ _ _ c2] (by kernel_rfl)).to (by rfl)
theorem ve:db 16:=by
 intro w dst src base aa ai cc d0 d1 s0 s1 b0 b1 hm
 have c0:= @aE 16 w dst src base aa ai cc (by decide)
 rw [hm] at c0
 have c1:= @aN 16 (by decide)
 have c2:= @eI dst d0 d1 src s0 s1
 exact (fF (d:= .int .i64 (gb (er dst) (er src))) [.ret _ _ _ c0,tF,.ret _ _ _ c1,tF,tT,tT,tF,.ret _ _ _ c2] (by kernel_rfl)).to (by rfl)
theorem vd:db 17:=by
 intro w dst src base aa ai cc d0 d1 s0 s1 b0 b1 hm
 have c0:= @aE 17 w dst src base aa ai cc (by decide)
 rw [hm] at c0
 have c1:= @aN 17 (by decide)
 have c2:= @bZ dst d0 d1
 exact (fF (d:= .int .i64 (er dst)) [.ret _ _ _ c0,tF,.ret _ _ _ c1,tF,tF,tF,tF,tT,tF,.ret _ _ _ c2] (by kernel_rfl)).to (by rfl)
theorem uZ:db 18:=by
 intro w dst src base aa ai cc d0 d1 s0 s1 b0 b1 hm
 have c0:= @aE 18 w dst src base aa ai cc (by decide)
 rw [hm] at c0
 have c1:= @aN 18 (by decide)
 have c2:= @bZ dst d0 d1
 exact (fF (d:= .int .i64 (er dst)) [.ret _ _ _ c0,tF,.ret _ _ _ c1,tF,tF,tF,tF,tT,tF,.ret _ _ _ c2] (by kernel_rfl)).to (by rfl)
theorem uY:db 19:=by
 intro w dst src base aa ai cc d0 d1 s0 s1 b0 b1 hm
 have c0:= @aE 19 w dst src base aa ai cc (by decide)
 rw [hm] at c0
 have c1:= @aN 19 (by decide)
 have c2:= @bZ dst d0 d1
 exact (fF (d:= .int .i64 (er dst)) [.ret _ _ _ c0,tF,.ret _ _ _ c1,tF,tF,tF,tF,tT,tF,.ret _ _ _ c2] (by kernel_rfl)).to (by rfl)
theorem uX:db 20:=by
 intro w dst src base aa ai cc d0 d1 s0 s1 b0 b1 hm
 have c0:= @aE 20 w dst src base aa ai cc (by decide)
 rw [hm] at c0
 have c1:= @aN 20 (by decide)
 have c2:= @eI dst d0 d1 1 (by decide) (by decide)
 exact (fF (d:= .int .i64 (gb (er dst) 2)) [.ret _ _ _ c0,tF,.ret _ _ _ c1,tF,tF,tF,tF,tF,tT,tF,tF,.ret _ _ _ c2] (by kernel_rfl)).to (by rfl)
theorem uW:db 21:=by
 intro w dst src base aa ai cc d0 d1 s0 s1 b0 b1 hm
 have c0:= @aE 21 w dst src base aa ai cc (by decide)
 rw [hm] at c0
 have c1:= @aN 21 (by decide)
 have c2:= @eI dst d0 d1 1 (by decide) (by decide)
 exact (fF (d:= .int .i64 (gb (er dst) 2)) [.ret _ _ _ c0,tF,.ret _ _ _ c1,tF,tF,tF,tF,tF,tT,tF,tF,.ret _ _ _ c2] (by kernel_rfl)).to (by rfl)
theorem uV:db 22:=by
 intro w dst src base aa ai cc d0 d1 s0 s1 b0 b1 hm
 have c0:= @aE 22 w dst src base aa ai cc (by decide)
 rw [hm] at c0
 have c1:= @aN 22 (by decide)
 have c2:= @eI dst d0 d1 1 (by decide) (by decide)
 exact (fF (d:= .int .i64 (gb (er dst) 2)) [.ret _ _ _ c0,tF,.ret _ _ _ c1,tF,tF,tF,tF,tF,tT,tF,tF,.ret _ _ _ c2] (by kernel_rfl)).to (by rfl)
theorem uU:db 23:=by
 intro w dst src base aa ai cc d0 d1 s0 s1 b0 b1 hm
 have c0:= @aE 23 w dst src base aa ai cc (by decide)
 rw [hm] at c0
 have c1:= @aN 23 (by decide)
 have c2:= @bZ dst d0 d1
 exact (fF (d:= .int .i64 (er dst)) [.ret _ _ _ c0,tF,.ret _ _ _ c1,tF,tF,tF,tF,tF,tT,tT,.ret _ _ _ c2] (by kernel_rfl)).to (by rfl)
theorem uT:db 24:=by
 intro w dst src base aa ai cc d0 d1 s0 s1 b0 b1 hm
 have c0:= @aE 24 w dst src base aa ai cc (by decide)
 rw [hm] at c0
 have c1:= @aN 24 (by decide)
 have c2:= @EY dst d0 d1
 exact (fF (d:= .int .i64 (gb (gb (er dst) 1) 4)) [.ret _ _ _ c0,tF,.ret _ _ _ c1,tF,tF,tF,tF,tF,tT,tF,tT,.ret _ _ _ c2] (by kernel_rfl)).to (by rfl)
theorem uS:db 25:=by
 intro w dst src base aa ai cc d0 d1 s0 s1 b0 b1 hm
 have c0:= @aE 25 w dst src base aa ai cc (by decide)
 rw [hm] at c0
 have c1:= @aN 25 (by decide)
 have c2:= @eI dst d0 d1 src s0 s1
 exact (fF (d:= .int .i64 (gb (er dst) (er src))) [.ret _ _ _ c0,tF,.ret _ _ _ c1,tF,tF,tT,tF,.ret _ _ _ c2] (by kernel_rfl)).to (by rfl)
theorem uR:db 26:=by
 intro w dst src base aa ai cc d0 d1 s0 s1 b0 b1 hm
 have c0:= @aE 26 w dst src base aa ai cc (by decide)
 rw [hm] at c0
 have c1:= @aN 26 (by decide)
 have c2:= @bZ base b0 b1
 exact (fF (d:= .int .i64 (er base)) [.ret _ _ _ c0,tF,.ret _ _ _ c1,tF,tF,tF,tF,tF,tF,tT,.ret _ _ _ c2] (by kernel_rfl)).to (by rfl)
theorem uQ:db 27:=by
 intro w dst src base aa ai cc d0 d1 s0 s1 b0 b1 hm
 have c0:= @aE 27 w dst src base aa ai cc (by decide)
 rw [hm] at c0
 have c1:= @aN 27 (by decide)
 have c2:= @eI base b0 b1 src s0 s1
 exact (fF (d:= .int .i64 (gb (er base) (er src))) [.ret _ _ _ c0,tF,.ret _ _ _ c1,tF,tF,tF,tF,tF,tF,tF,tT,.ret _ _ _ c2] (by kernel_rfl)).to (by rfl)
theorem uP:db 28:=by
 intro w dst src base aa ai cc d0 d1 s0 s1 b0 b1 hm
 have c0:= @aE 28 w dst src base aa ai cc (by decide)
 rw [hm] at c0
 have c1:= @aN 28 (by decide)
 exact (fF (d:= .int .i64 0) ([.ret _ _ _ c0,tF,.ret _ _ _ c1]++Vc 9 tF) (by kernel_rfl)).to (by rfl)
theorem uO:db 29:=by
 intro w dst src base aa ai cc d0 d1 s0 s1 b0 b1 hm
 have c0:= @aE 29 w dst src base aa ai cc (by decide)
 rw [hm] at c0
 have c1:= @aN 29 (by decide)
 exact (fF (d:= .int .i64 0) ([.ret _ _ _ c0,tF,.ret _ _ _ c1]++Vc 9 tF) (by kernel_rfl)).to (by rfl)
theorem uN:db 30:=by
 intro w dst src base aa ai cc d0 d1 s0 s1 b0 b1 hm
 have c0:= @aE 30 w dst src base aa ai cc (by decide)
 rw [hm] at c0
 have c1:= @aN 30 (by decide)
 have c2:= @eI 4 (by decide) (by decide) 0 (by decide) (by decide)
 exact (fF (d:= .int .i64 17) ([.ret _ _ _ c0,tF,.ret _ _ _ c1]++Vc 8 tF++ [tT,tT,.ret _ _ _ c2]) (by kernel_rfl)).to (by rfl)
theorem uM:db 31:=by
 intro w dst src base aa ai cc d0 d1 s0 s1 b0 b1 hm
 have c0:= @aE 31 w dst src base aa ai cc (by decide)
 rw [hm] at c0
 have c1:= @aN 31 (by decide)
 exact (fF (d:= .int .i64 1477) ([.ret _ _ _ c0,tF,.ret _ _ _ c1]++Vc 8 tF++ [tT,tF,.inl,.go 64,tT,tT,.get ([.int .i8 0,.int .i8 7,.int .i8 6,.int .i8 2,.int .i8 10,.int .i8 8]) 0 (.int .i8 0) rfl,tT,tT,tT,.get ([.int .i8 0,.int .i8 7,.int .i8 6,.int .i8 2,.int .i8 10,.int .i8 8]) 1 (.int .i8 7) rfl,tT,tT,tT,.get ([.int .i8 0,.int .i8 7,.int .i8 6,.int .i8 2,.int .i8 10,.int .i8 8]) 2 (.int .i8 6) rfl,tT,tT,tT,.get ([.int .i8 0,.int .i8 7,.int .i8 6,.int .i8 2,.int .i8 10,.int .i8 8]) 3 (.int .i8 2) rfl,tT,tT,tT,.get ([.int .i8 0,.int .i8 7,.int .i8 6,.int .i8 2,.int .i8 10,.int .i8 8]) 4 (.int .i8 10) rfl,tT,tT,tT,.get ([.int .i8 0,.int .i8 7,.int .i8 6,.int .i8 2,.int .i8 10,.int .i8 8]) 5 (.int .i8 8) rfl,tT,tF]) (by kernel_rfl)).to (by rfl)
theorem uL (op w dst src base aa ai cc:Int) (ho:op≤127) (hm:aA op w dst src base aa ai cc=false):aZ Tryz.prog 121 ([xD op w dst src base aa ai cc]) (.int .i64 0):=by
 have c0:= @aE op w dst src base aa ai cc ho
 rw [hm] at c0
 exact (fF (d:= .int .i64 0) [.ret _ _ _ c0,tT] (by kernel_rfl)).to (by simp [wk])
def cZ (Pf:Int):Prop:= ∀(w dst src base aa ai cc:Int) (d0:0≤dst) (d1:dst≤15) (s0:0≤src) (s1:src≤15) (b0:0≤base) (b1:base≤15) (hm:aA Pf w dst src base aa ai cc=true),aZ Tryz.prog 115 ([xD Pf w dst src base aa ai cc]) (.int .i64 (jy Pf dst))
theorem um:cZ 0:=by
 intro w dst src base aa ai cc d0 d1 s0 s1 b0 b1 hm
 have c0:= @aE 0 w dst src base aa ai cc (by decide)
 rw [hm] at c0
 have c1:= @bZ dst d0 d1
 exact (fG (d:= .int .i64 (er dst)) ([.ret _ _ _ c0]++Vc 11 tF++ [.ret _ _ _ c1]) (by kernel_rfl)).to (by rfl)
theorem uk:cZ 1:=by
 intro w dst src base aa ai cc d0 d1 s0 s1 b0 b1 hm
 have c0:= @aE 1 w dst src base aa ai cc (by decide)
 rw [hm] at c0
 have c1:= @bZ dst d0 d1
 exact (fG (d:= .int .i64 (er dst)) ([.ret _ _ _ c0]++Vc 11 tF++ [.ret _ _ _ c1]) (by kernel_rfl)).to (by rfl)
theorem uj:cZ 2:=by
 intro w dst src base aa ai cc d0 d1 s0 s1 b0 b1 hm
 have c0:= @aE 2 w dst src base aa ai cc (by decide)
 rw [hm] at c0
 have c1:= @bZ dst d0 d1
 exact (fG (d:= .int .i64 (er dst)) ([.ret _ _ _ c0]++Vc 11 tF++ [.ret _ _ _ c1]) (by kernel_rfl)).to (by rfl)
theorem ui:cZ 3:=by
 intro w dst src base aa ai cc d0 d1 s0 s1 b0 b1 hm
 have c0:= @aE 3 w dst src base aa ai cc (by decide)
 rw [hm] at c0
 have c1:= @bZ dst d0 d1
 exact (fG (d:= .int .i64 (er dst)) ([.ret _ _ _ c0]++Vc 11 tF++ [.ret _ _ _ c1]) (by kernel_rfl)).to (by rfl)
theorem uh:cZ 4:=by
 intro w dst src base aa ai cc d0 d1 s0 s1 b0 b1 hm
 have c0:= @aE 4 w dst src base aa ai cc (by decide)
 rw [hm] at c0
 have c1:= @bZ dst d0 d1
 exact (fG (d:= .int .i64 (er dst)) ([.ret _ _ _ c0]++Vc 11 tF++ [.ret _ _ _ c1]) (by kernel_rfl)).to (by rfl)
theorem ug:cZ 5:=by
 intro w dst src base aa ai cc d0 d1 s0 s1 b0 b1 hm
 have c0:= @aE 5 w dst src base aa ai cc (by decide)
 rw [hm] at c0
 have c1:= @bZ dst d0 d1
 exact (fG (d:= .int .i64 (er dst)) ([.ret _ _ _ c0]++Vc 11 tF++ [.ret _ _ _ c1]) (by kernel_rfl)).to (by rfl)
theorem uf:cZ 6:=by
 intro w dst src base aa ai cc d0 d1 s0 s1 b0 b1 hm
 have c0:= @aE 6 w dst src base aa ai cc (by decide)
 rw [hm] at c0
 have c1:= @bZ dst d0 d1
 exact (fG (d:= .int .i64 (er dst)) ([.ret _ _ _ c0]++Vc 11 tF++ [.ret _ _ _ c1]) (by kernel_rfl)).to (by rfl)
theorem ue:cZ 7:=by
 intro w dst src base aa ai cc d0 d1 s0 s1 b0 b1 hm
 have c0:= @aE 7 w dst src base aa ai cc (by decide)
 rw [hm] at c0
 exact (fG (d:= .int .i64 0) [.ret _ _ _ c0,tF,tT,tT] (by kernel_rfl)).to (by rfl)
theorem ud:cZ 8:=by
 intro w dst src base aa ai cc d0 d1 s0 s1 b0 b1 hm
 have c0:= @aE 8 w dst src base aa ai cc (by decide)
 rw [hm] at c0
 exact (fG (d:= .int .i64 0) [.ret _ _ _ c0,tF,tF,tT,tT] (by kernel_rfl)).to (by rfl)
theorem uc:cZ 9:=by
 intro w dst src base aa ai cc d0 d1 s0 s1 b0 b1 hm
 have c0:= @aE 9 w dst src base aa ai cc (by decide)
 rw [hm] at c0
 have c1:= @bZ dst d0 d1
 exact (fG (d:= .int .i64 (er dst)) ([.ret _ _ _ c0]++Vc 11 tF++ [.ret _ _ _ c1]) (by kernel_rfl)).to (by rfl)
theorem ss:cZ 10:=by
 intro w dst src base aa ai cc d0 d1 s0 s1 b0 b1 hm
 have c0:= @aE 10 w dst src base aa ai cc (by decide)
 rw [hm] at c0
 have c1:= @bZ dst d0 d1
 exact (fG (d:= .int .i64 (er dst)) ([.ret _ _ _ c0]++Vc 11 tF++ [.ret _ _ _ c1]) (by kernel_rfl)).to (by rfl)
theorem sr:cZ 11:=by
 intro w dst src base aa ai cc d0 d1 s0 s1 b0 b1 hm
 have c0:= @aE 11 w dst src base aa ai cc (by decide)
 rw [hm] at c0
 have c1:= @bZ dst d0 d1
 exact (fG (d:= .int .i64 (er dst)) ([.ret _ _ _ c0]++Vc 11 tF++ [.ret _ _ _ c1]) (by kernel_rfl)).to (by rfl)
theorem sq:cZ 12:=by
 intro w dst src base aa ai cc d0 d1 s0 s1 b0 b1 hm
 have c0:= @aE 12 w dst src base aa ai cc (by decide)
 rw [hm] at c0
 have c1:= @bZ dst d0 d1
 exact (fG (d:= .int .i64 (er dst)) ([.ret _ _ _ c0]++Vc 11 tF++ [.ret _ _ _ c1]) (by kernel_rfl)).to (by rfl)
theorem so:cZ 13:=by
 intro w dst src base aa ai cc d0 d1 s0 s1 b0 b1 hm
 have c0:= @aE 13 w dst src base aa ai cc (by decide)
 rw [hm] at c0
 have c1:= @bZ dst d0 d1
 exact (fG (d:= .int .i64 (er dst)) ([.ret _ _ _ c0]++Vc 11 tF++ [.ret _ _ _ c1]) (by kernel_rfl)).to (by rfl)
theorem sm:cZ 14:=by
 intro w dst src base aa ai cc d0 d1 s0 s1 b0 b1 hm
 have c0:= @aE 14 w dst src base aa ai cc (by decide)
 rw [hm] at c0
 exact (fG (d:= .int .i64 0) [.ret _ _ _ c0,tF,tF,tF,tT,tT] (by kernel_rfl)).to (by rfl)
theorem sl:cZ 15:=by
 intro w dst src base aa ai cc d0 d1 s0 s1 b0 b1 hm
 have c0:= @aE 15 w dst src base aa ai cc (by decide)
 rw [hm] at c0
 exact (fG (d:= .int .i64 0) [.ret _ _ _ c0,tF,tF,tF,tF,tT,tT] (by kernel_rfl)).to (by rfl)
theorem sk:cZ 16:=by
 intro w dst src base aa ai cc d0 d1 s0 s1 b0 b1 hm
 have c0:= @aE 16 w dst src base aa ai cc (by decide)
 rw [hm] at c0
 have c1:= @bZ dst d0 d1
 exact (fG (d:= .int .i64 (er dst)) ([.ret _ _ _ c0]++Vc 11 tF++ [.ret _ _ _ c1]) (by kernel_rfl)).to (by rfl)
theorem sj:cZ 17:=by
 intro w dst src base aa ai cc d0 d1 s0 s1 b0 b1 hm
 have c0:= @aE 17 w dst src base aa ai cc (by decide)
 rw [hm] at c0
 have c1:= @bZ dst d0 d1
 exact (fG (d:= .int .i64 (er dst)) ([.ret _ _ _ c0]++Vc 11 tF++ [.ret _ _ _ c1]) (by kernel_rfl)).to (by rfl)
theorem si:cZ 18:=by
 intro w dst src base aa ai cc d0 d1 s0 s1 b0 b1 hm
 have c0:= @aE 18 w dst src base aa ai cc (by decide)
 rw [hm] at c0
 have c1:= @bZ dst d0 d1
 exact (fG (d:= .int .i64 (er dst)) ([.ret _ _ _ c0]++Vc 11 tF++ [.ret _ _ _ c1]) (by kernel_rfl)).to (by rfl)
theorem sg:cZ 19:=by
 intro w dst src base aa ai cc d0 d1 s0 s1 b0 b1 hm
 have c0:= @aE 19 w dst src base aa ai cc (by decide)
 rw [hm] at c0
 have c1:= @bZ dst d0 d1
 exact (fG (d:= .int .i64 (er dst)) ([.ret _ _ _ c0]++Vc 11 tF++ [.ret _ _ _ c1]) (by kernel_rfl)).to (by rfl)
theorem sf:cZ 20:=by
 intro w dst src base aa ai cc d0 d1 s0 s1 b0 b1 hm
 have c0:= @aE 20 w dst src base aa ai cc (by decide)
 rw [hm] at c0
 have c1:= @bZ dst d0 d1
 exact (fG (d:= .int .i64 (er dst)) ([.ret _ _ _ c0]++Vc 11 tF++ [.ret _ _ _ c1]) (by kernel_rfl)).to (by rfl)
theorem se:cZ 21:=by
 intro w dst src base aa ai cc d0 d1 s0 s1 b0 b1 hm
 have c0:= @aE 21 w dst src base aa ai cc (by decide)
 rw [hm] at c0
 have c1:= @bZ dst d0 d1
 exact (fG (d:= .int .i64 (er dst)) ([.ret _ _ _ c0]++Vc 11 tF++ [.ret _ _ _ c1]) (by kernel_rfl)).to (by rfl)
theorem sd:cZ 22:=by
 intro w dst src base aa ai cc d0 d1 s0 s1 b0 b1 hm
 have c0:= @aE 22 w dst src base aa ai cc (by decide)
 rw [hm] at c0
 have c1:= @bZ dst d0 d1
 exact (fG (d:= .int .i64 (er dst)) ([.ret _ _ _ c0]++Vc 11 tF++ [.ret _ _ _ c1]) (by kernel_rfl)).to (by rfl)
theorem sb:cZ 23:=by
 intro w dst src base aa ai cc d0 d1 s0 s1 b0 b1 hm
 have c0:= @aE 23 w dst src base aa ai cc (by decide)
 rw [hm] at c0
 have c1:= @bZ dst d0 d1
 exact (fG (d:= .int .i64 (er dst)) ([.ret _ _ _ c0]++Vc 11 tF++ [.ret _ _ _ c1]) (by kernel_rfl)).to (by rfl)
theorem rZ:cZ 24:=by
 intro w dst src base aa ai cc d0 d1 s0 s1 b0 b1 hm
 have c0:= @aE 24 w dst src base aa ai cc (by decide)
 rw [hm] at c0
 have c1:= @eI 0 (by decide) (by decide) 2 (by decide) (by decide)
 exact (fG (d:= .int .i64 5) ([.ret _ _ _ c0]++Vc 8 tF++ [tT,.ret _ _ _ c1]) (by kernel_rfl)).to (by rfl)
theorem rY:cZ 25:=by
 intro w dst src base aa ai cc d0 d1 s0 s1 b0 b1 hm
 have c0:= @aE 25 w dst src base aa ai cc (by decide)
 rw [hm] at c0
 have c1:= @bZ dst d0 d1
 exact (fG (d:= .int .i64 (er dst)) ([.ret _ _ _ c0]++Vc 11 tF++ [.ret _ _ _ c1]) (by kernel_rfl)).to (by rfl)
theorem rX:cZ 26:=by
 intro w dst src base aa ai cc d0 d1 s0 s1 b0 b1 hm
 have c0:= @aE 26 w dst src base aa ai cc (by decide)
 rw [hm] at c0
 have c1:= @bZ dst d0 d1
 exact (fG (d:= .int .i64 (er dst)) ([.ret _ _ _ c0]++Vc 11 tF++ [.ret _ _ _ c1]) (by kernel_rfl)).to (by rfl)
theorem rW:cZ 27:=by
 intro w dst src base aa ai cc d0 d1 s0 s1 b0 b1 hm
 have c0:= @aE 27 w dst src base aa ai cc (by decide)
 rw [hm] at c0
 exact (fG (d:= .int .i64 0) [.ret _ _ _ c0,tF,tF,tF,tF,tF,tT,tT] (by kernel_rfl)).to (by rfl)
theorem rV:cZ 28:=by
 intro w dst src base aa ai cc d0 d1 s0 s1 b0 b1 hm
 have c0:= @aE 28 w dst src base aa ai cc (by decide)
 rw [hm] at c0
 exact (fG (d:= .int .i64 0) [.ret _ _ _ c0,tF,tF,tF,tF,tF,tF,tT,tT] (by kernel_rfl)).to (by rfl)
theorem rU:cZ 29:=by
 intro w dst src base aa ai cc d0 d1 s0 s1 b0 b1 hm
 have c0:= @aE 29 w dst src base aa ai cc (by decide)
 rw [hm] at c0
 exact (fG (d:= .int .i64 0) [.ret _ _ _ c0,tF,tF,tF,tF,tF,tF,tF,tT] (by kernel_rfl)).to (by rfl)
theorem rT:cZ 30:=by
 intro w dst src base aa ai cc d0 d1 s0 s1 b0 b1 hm
 have c0:= @aE 30 w dst src base aa ai cc (by decide)
 rw [hm] at c0
 have c1:= @bZ 4 (by decide) (by decide)
 exact (fG (d:= .int .i64 16) ([.ret _ _ _ c0]++Vc 9 tF++ [tT,.ret _ _ _ c1]) (by kernel_rfl)).to (by rfl)
theorem rS:cZ 31:=by
 intro w dst src base aa ai cc d0 d1 s0 s1 b0 b1 hm
 have c0:= @aE 31 w dst src base aa ai cc (by decide)
 rw [hm] at c0
 exact (fG (d:= .int .i64 2051) ([.ret _ _ _ c0]++Vc 10 tF++ [tT,.inl,.go 64,tT,tT,.get ([.int .i8 0,.int .i8 1,.int .i8 11]) 0 (.int .i8 0) rfl,tT,tT,tT,.get ([.int .i8 0,.int .i8 1,.int .i8 11]) 1 (.int .i8 1) rfl,tT,tT,tT,.get ([.int .i8 0,.int .i8 1,.int .i8 11]) 2 (.int .i8 11) rfl,tT,tF]) (by kernel_rfl)).to (by rfl)
theorem rR (op w dst src base aa ai cc:Int) (ho:op≤127) (hm:aA op w dst src base aa ai cc=false):aZ Tryz.prog 115 ([xD op w dst src base aa ai cc]) (.int .i64 0):=by
 have c0:= @aE op w dst src base aa ai cc ho
 rw [hm] at c0
 exact (fG (d:= .int .i64 0) [.ret _ _ _ c0,tT] (by kernel_rfl)).to (by simp [wk])
theorem zV {op w dst src base aa ai cc:Int} (h:aA op w dst src base aa ai cc=true):aR op≠0:=by
 have hs:=(fh h).2
 intro e
 rw [e] at hs
 simp [aG] at hs
theorem eh (op w dst src base aa ai cc:Int) (ho:op≤127):aZ Tryz.prog 121 [xD op w dst src base aa ai cc] (.int .i64 (jC op w dst src base aa ai cc)):=by
 unfold jC
 cases h:aA op w dst src base aa ai cc
 ·simp only [V5,if_false]
  exact uL op w dst src base aa ai cc ho h
 ·simp only [if_true]
  obtain ⟨⟨d0,d1,s0,s1,b0,b1,p0,p1,i0,i1⟩,hs⟩:=fh h
  have RN:=zV h
  clear hs
  rcases ji RN with rfl|rfl|rfl|rfl|rfl|rfl|rfl|rfl|rfl|rfl|rfl|rfl|rfl|rfl|rfl|rfl|rfl|rfl|rfl|rfl|rfl|rfl|rfl|rfl|rfl|rfl|rfl|rfl|rfl|rfl|rfl|rfl
  ·exact xu _ _ _ _ _ _ _ d0 d1 s0 s1 b0 b1 h
  ·exact xr _ _ _ _ _ _ _ d0 d1 s0 s1 b0 b1 h
  ·exact xq _ _ _ _ _ _ _ d0 d1 s0 s1 b0 b1 h
  ·exact xp _ _ _ _ _ _ _ d0 d1 s0 s1 b0 b1 h
  ·exact xo _ _ _ _ _ _ _ d0 d1 s0 s1 b0 b1 h
  ·exact xn _ _ _ _ _ _ _ d0 d1 s0 s1 b0 b1 h
  ·exact xm _ _ _ _ _ _ _ d0 d1 s0 s1 b0 b1 h
  ·exact xl _ _ _ _ _ _ _ d0 d1 s0 s1 b0 b1 h
  ·exact xk _ _ _ _ _ _ _ d0 d1 s0 s1 b0 b1 h
  ·exact xj _ _ _ _ _ _ _ d0 d1 s0 s1 b0 b1 h
  ·exact vk _ _ _ _ _ _ _ d0 d1 s0 s1 b0 b1 h
  ·exact vj _ _ _ _ _ _ _ d0 d1 s0 s1 b0 b1 h
  ·exact vi _ _ _ _ _ _ _ d0 d1 s0 s1 b0 b1 h
  ·exact vh _ _ _ _ _ _ _ d0 d1 s0 s1 b0 b1 h
  ·exact vg _ _ _ _ _ _ _ d0 d1 s0 s1 b0 b1 h
  ·exact vf _ _ _ _ _ _ _ d0 d1 s0 s1 b0 b1 h
  ·exact ve _ _ _ _ _ _ _ d0 d1 s0 s1 b0 b1 h
  ·exact vd _ _ _ _ _ _ _ d0 d1 s0 s1 b0 b1 h
  ·exact uZ _ _ _ _ _ _ _ d0 d1 s0 s1 b0 b1 h
  ·exact uY _ _ _ _ _ _ _ d0 d1 s0 s1 b0 b1 h
  ·exact uX _ _ _ _ _ _ _ d0 d1 s0 s1 b0 b1 h
  ·exact uW _ _ _ _ _ _ _ d0 d1 s0 s1 b0 b1 h
  ·exact uV _ _ _ _ _ _ _ d0 d1 s0 s1 b0 b1 h
  ·exact uU _ _ _ _ _ _ _ d0 d1 s0 s1 b0 b1 h
  ·exact uT _ _ _ _ _ _ _ d0 d1 s0 s1 b0 b1 h
  ·exact uS _ _ _ _ _ _ _ d0 d1 s0 s1 b0 b1 h
  ·exact uR _ _ _ _ _ _ _ d0 d1 s0 s1 b0 b1 h
  ·exact uQ _ _ _ _ _ _ _ d0 d1 s0 s1 b0 b1 h
  ·exact uP _ _ _ _ _ _ _ d0 d1 s0 s1 b0 b1 h
  ·exact uO _ _ _ _ _ _ _ d0 d1 s0 s1 b0 b1 h
  ·exact uN _ _ _ _ _ _ _ d0 d1 s0 s1 b0 b1 h
  ·exact uM _ _ _ _ _ _ _ d0 d1 s0 s1 b0 b1 h
theorem aY (op w dst src base aa ai cc:Int) (ho:op≤127):aZ Tryz.prog 115 [xD op w dst src base aa ai cc] (.int .i64 (fe op w dst src base aa ai cc)):=by
 unfold fe
 cases h:aA op w dst src base aa ai cc
 ·simp only [V5,if_false]
  exact rR op w dst src base aa ai cc ho h
 ·simp only [if_true]
  obtain ⟨⟨d0,d1,s0,s1,b0,b1,p0,p1,i0,i1⟩,hs⟩:=fh h
  have RN:=zV h
  clear hs
  rcases ji RN with rfl|rfl|rfl|rfl|rfl|rfl|rfl|rfl|rfl|rfl|rfl|rfl|rfl|rfl|rfl|rfl|rfl|rfl|rfl|rfl|rfl|rfl|rfl|rfl|rfl|rfl|rfl|rfl|rfl|rfl|rfl|rfl
  ·exact um _ _ _ _ _ _ _ d0 d1 s0 s1 b0 b1 h
  ·exact uk _ _ _ _ _ _ _ d0 d1 s0 s1 b0 b1 h
  ·exact uj _ _ _ _ _ _ _ d0 d1 s0 s1 b0 b1 h
  ·exact ui _ _ _ _ _ _ _ d0 d1 s0 s1 b0 b1 h
  ·exact uh _ _ _ _ _ _ _ d0 d1 s0 s1 b0 b1 h
  ·exact ug _ _ _ _ _ _ _ d0 d1 s0 s1 b0 b1 h
  ·exact uf _ _ _ _ _ _ _ d0 d1 s0 s1 b0 b1 h
  ·exact ue _ _ _ _ _ _ _ d0 d1 s0 s1 b0 b1 h
  ·exact ud _ _ _ _ _ _ _ d0 d1 s0 s1 b0 b1 h
  ·exact uc _ _ _ _ _ _ _ d0 d1 s0 s1 b0 b1 h
  ·exact ss _ _ _ _ _ _ _ d0 d1 s0 s1 b0 b1 h
  ·exact sr _ _ _ _ _ _ _ d0 d1 s0 s1 b0 b1 h
  ·exact sq _ _ _ _ _ _ _ d0 d1 s0 s1 b0 b1 h
  ·exact so _ _ _ _ _ _ _ d0 d1 s0 s1 b0 b1 h
  ·exact sm _ _ _ _ _ _ _ d0 d1 s0 s1 b0 b1 h
  ·exact sl _ _ _ _ _ _ _ d0 d1 s0 s1 b0 b1 h
  ·exact sk _ _ _ _ _ _ _ d0 d1 s0 s1 b0 b1 h
  ·exact sj _ _ _ _ _ _ _ d0 d1 s0 s1 b0 b1 h
  ·exact si _ _ _ _ _ _ _ d0 d1 s0 s1 b0 b1 h
  ·exact sg _ _ _ _ _ _ _ d0 d1 s0 s1 b0 b1 h
  ·exact sf _ _ _ _ _ _ _ d0 d1 s0 s1 b0 b1 h
  ·exact se _ _ _ _ _ _ _ d0 d1 s0 s1 b0 b1 h
  ·exact sd _ _ _ _ _ _ _ d0 d1 s0 s1 b0 b1 h
  ·exact sb _ _ _ _ _ _ _ d0 d1 s0 s1 b0 b1 h
  ·exact rZ _ _ _ _ _ _ _ d0 d1 s0 s1 b0 b1 h
  ·exact rY _ _ _ _ _ _ _ d0 d1 s0 s1 b0 b1 h
  ·exact rX _ _ _ _ _ _ _ d0 d1 s0 s1 b0 b1 h
  ·exact rW _ _ _ _ _ _ _ d0 d1 s0 s1 b0 b1 h
  ·exact rV _ _ _ _ _ _ _ d0 d1 s0 s1 b0 b1 h
  ·exact rU _ _ _ _ _ _ _ d0 d1 s0 s1 b0 b1 h
  ·exact rT _ _ _ _ _ _ _ d0 d1 s0 s1 b0 b1 h
  ·exact rS _ _ _ _ _ _ _ d0 d1 s0 s1 b0 b1 h
end Go.Proofs.YtkpneibifdoecaaGreat
